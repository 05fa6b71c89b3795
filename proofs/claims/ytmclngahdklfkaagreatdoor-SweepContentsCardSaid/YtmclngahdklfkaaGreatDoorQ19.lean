/- Texts of ours, joined: SwR1. -/
import Derived.Test.YtmclngahdklfkaaGreatDoorRows
import Derived.WalkKit
import Derived.ProofKit
import Derived.OpenShut
import Derived.ShutString
import Derived.ChangeOld
import Derived.Below
import Derived.BigQuiet
import Derived.Deep.QuietTactic
import Derived.Lib.Hide
import Derived.Deep.RegionHeld3
import Derived.Lib.SlBytesConst
import Derived.Laws.CopyOwn
import Derived.Laws.CopyRow
import Derived.Lib.Bytes
import Derived.Deep.LoopGhost
import Derived.Deep.DeepFit
import Derived.Deep.DeepMust
import Derived.WalkSpells
import Derived.WalkLawsBesides
import Derived.Maps.OwnOps
import Derived.Maps.OwnSet
import Derived.Maps.Views
import Derived.Laws.EntriesVeiled
import Derived.Laws.Rows
import Derived.Maps.AppendAt
import Derived.Lib.SmallJoins
import Derived.Deep.AppendLies
import Derived.Deep.RegionLaw
import Derived.Deep.RegionWith
import Derived.Test.YtmclngahdklfkaaGreatDoorQ1
import Derived.Test.YtmclngahdklfkaaGreatDoorQ7
import Derived.Test.YtmclngahdklfkaaGreatDoorQ3
import Derived.Test.YtmclngahdklfkaaGreatDoorQ2
import Derived.Test.YtmclngahdklfkaaGreatDoorQ5
import Derived.Test.YtmclngahdklfkaaGreatDoorQ6
import Derived.Test.YtmclngahdklfkaaGreatDoorQ8
import Derived.Test.YtmclngahdklfkaaGreatDoorQ9
import Derived.Test.YtmclngahdklfkaaGreatDoorQ10
import Derived.Test.YtmclngahdklfkaaGreatDoorQ11
import Derived.Test.YtmclngahdklfkaaGreatDoorQ12
import Derived.Test.YtmclngahdklfkaaGreatDoorQ13
import Derived.Test.YtmclngahdklfkaaGreatDoorQ14
import Derived.Test.YtmclngahdklfkaaGreatDoorQ15
import Derived.Test.YtmclngahdklfkaaGreatDoorQ16
import Derived.Test.YtmclngahdklfkaaGreatDoorQ17
import Derived.Test.YtmclngahdklfkaaGreatDoorQ18
/- The document's Over. -/
namespace Go.Proofs.YtmclngahdklfkaaGreatDoor
open Go.ChangeShapes Go.WideShapes Go.ChangeAt Go.RowKit
set_option linter.unusedVariables false
theorem OwnS.nilS {w : World} {base n c : Nat} {op : List (List UInt8)} (h : OwnS w base (.slice none n c) op) : n = 0 ∧ c = 0 := by
  obtain ⟨hl, ⟨hv, _⟩ | ⟨g, cap, cur, hv, _⟩⟩ := h
  · injection hv with h1 h2 h3
    exact ⟨h2, h3⟩
  · injection hv with h1
    cases h1
theorem news_one {w : World} {b : Nat} {s : List UInt8} (h : w.heap[b]? = some (.cells #[.string ⟨s.toArray⟩] 9)) : ∀ (j : Nat) u, ([s].map strV)[j]? = some u → w.cell? ((⟨b, 0, none⟩ : Addr).add j) = some u := by
  intro j u hu
  match j with
  | 0 =>
    simp at hu
    subst hu
    rw [addr_add, cell_of _ h]
    rfl
  | j + 1 => simp at hu
theorem own_far1 {v v0 : Value} {a b j n : Nat} (hat : v.ownBlock = v0.ownBlock ∨ v.ownBlock = some b) (hj : v.ownBlock = some j) (h0 : v0.ownBlock = some a) (ha : n ≤ a) (hb : n ≤ b) : n ≤ j := by
  rcases hat with e | e
  · rw [e, h0] at hj; cases hj; exact ha
  · rw [e] at hj; cases hj; exact hb
/-- While the document's tokens are swept: their row, what is open. -/
structure RV (w wr : World) (v : Value) (vs : List TokV) (sv : Value) (op : List (List UInt8)) : Prop where
  gro : GrowT 30 w wr w.heap.size v vs
  own : OwnS wr w.heap.size sv op
theorem RV.kept {w wr w' : World} {v : Value} {vs : List TokV} {sv : Value} {op : List (List UInt8)} (h : RV w wr v vs sv op) (hb : Below wr.heap.size wr w') : RV w w' v vs sv op := ⟨h.gro.kept hb, h.own.kept hb⟩
theorem RV.appended {w wr w' : World} {v v' : Value} {vs : List TokV} {sv : Value} {op : List (List UInt8)} {x : TokV} {us : Array Value} (h : RV w wr v vs sv op) (hx : PRd wr wr.heap.size x.A x.n x.c x.t.pairs) (hoff : 0 < x.c → ∀ b i, x.A = some ⟨b, i, none⟩ → some b ≠ v.ownBlock)
    (hown : w'.ownsRow w.heap.size 30 7 v' (vs.length + 1) (cellsK vs ++ x.cells)) (hg : (wr.alloc (.cells us 30)).grownBy w' v.ownBlock) (hat : v'.ownBlock = v.ownBlock ∨ v'.ownBlock = some (wr.heap.size + 1)) : RV w w' v' (vs ++ [x]) sv op := by
  have hs := hg.size
  rw [World.size_alloc] at hs
  refine ⟨h.gro.appended hx hoff hown hg hat, ?_⟩
  obtain ⟨hl, h2 | ⟨g, cp, cur, hv, hgb, hh, r⟩⟩ := h.own
  · exact ⟨hl, .inl h2⟩
  · refine ⟨hl, .inr ⟨g, cp, cur, hv, hgb, ?_, r⟩⟩
    have hlt := lt_of hh
    rw [hg.block g (by rw [World.size_alloc]; omega) (own_type h.own h.gro.own (by decide) (by rw [hv]; rfl)), Below.heap_alloc _ _ _ hlt]
    exact hh
set_option maxRecDepth 100000 in
set_option maxHeartbeats 8000000 in
theorem refOver_c (whole : Bool) (A : Option Addr) (n cap : Nat) (l : List UInt8) (k : Nat) (w : World) (h : Byt w w.heap.size A n cap l) (hm : n ≤ 40000) (hk : k ≤ n) :
    Calls Tryz.prog 20 #[.slice A n cap, .int .i64 (k : Int), .bool whole] w fun e w' => AllPost (overR l whole (l.length + 1) [] [] false k) w e w' := by
  have hln := h.length
  have CN : Hid (∀ t : Nat, t < n → ∀ W v vs sv op, RV w W v vs sv op → Calls Tryz.prog 11 #[.slice A n cap, .int .i64 (t : Int)] W fun e w' => TokPost (nextOut l t) W e w') := Lib.hid fun t ht W v vs sv op hG => by
    have := refNext_c A n cap l t W ((h.below hG.gro.below).more hG.gro.below.size) hm
    rwa [nextAt_in l t (by omega)] at this
  have HLn := Lib.hid hln
  have hi : (Tryz.prog.info? 30).map (·.size) = some 7 := by kernel_rfl
  obtain ⟨sd, hu⟩ := isStruct_of (P := Tryz.prog) (t := 30) (by kernel_rfl)
  have HU := Lib.hid (And.intro hi hu)
  have HM := Lib.hid hm
  have HK := Lib.hid hk
  have k0 : ¬ (k : Int) < 0 := by omega
  have kn : ¬ (n : Int) < (k : Int) := by omega
  generalize hR : overR l whole (l.length + 1) [] [] false k = R at *
  have HR : Hid (R = overR l whole (n + 1) [] [] false k) := Lib.hid (by rw [← hR, HLn.out])
  clear h hln hi hu hR hm hk
  go_enter Tryz.func20, Tryz.ntmps20
  go_wp2_with fail
  go_loopg [1, 9, 10, 11] (n) (fun g i v s10 rv wr => ∃ (t : Nat) (vs : List TokV) (f : Nat) (op : List (List UInt8)) (root : Bool) (sv : Value), s10 = sv ∧ i = .int .i64 (t : Int) ∧ rv = .bool root ∧ t ≤ n ∧ Hid (g = f) ∧ Hid (n ≤ f + t) ∧ Hid (vs.length ≤ t) ∧ Hid (op.length ≤ t) ∧ Hid (R = overR l whole (f + 1) (vs.map TokV.t) op root t) ∧ Hid (RV w wr v vs sv op))
  case atStart => exact ⟨k, [], n, [], false, _, rfl, rfl, rfl, HK.out, Lib.hid rfl, Lib.hid (by omega), Lib.hid (Nat.zero_le _), Lib.hid (Nat.zero_le _), HR, Lib.hid ⟨GrowT.start _ _, OwnS.start _ _⟩⟩
  case round =>
    obtain ⟨t, vs, f, op, root, sv, hs10, rfl, rfl, ht, hgf, hg, hal, hopl, HE, HJ⟩ := hrel
    have hm := HM.out
    have ht0 : (0 : Int) ≤ (t : Int) := by omega
    have ht9 : (t : Int) ≤ 40000 := by omega
    clear k0 kn
    by_cases htn : t < n
    · have hti : (t : Int) < (n : Int) := by omega
      have htl : t < l.length := by rw [HLn.out]; exact htn
      have C1 := CN.out t htn _ _ _ _ _ HJ.out
      have hok := nextOut_ok l t htl
      have htx := text_le l t
      have hbad := fun e (h1 : (nextOut l t).2 = e) h2 => HE.out.trans (over_bad (f := f) (acc := vs.map TokV.t) htl h1 h2)
      have hno := fun k (h1 : nextOut l t = (k, 0)) h2 => HE.out.trans (over_no (f := f) (acc := vs.map TokV.t) htl h1 h2)
      have hmore := fun k u op' root' (h1 : nextOut l t = (k, 0)) (h2 : mayS whole op root k = some (op', root')) (h3 : k.to_ = ((u : Nat) : Int)) => HE.out.trans (over_more (f := f) (acc := vs.map TokV.t) htl h1 h2 h3)
      generalize nextOut l t = no at *
      obtain ⟨k, e⟩ := no
      simp only at hok hbad htx
      have C2 := Lib.hid C1
      clear C1
      by_cases he : e = 0
      · subst he
        obtain ⟨hfro, u, hu, htu, hun⟩ := hok rfl
        clear hfro
        rw [HLn.out] at hun htx
        have HUu := Lib.hid hu
        have HTX := Lib.hid (fun h => Nat.le_trans (htx h) (show n ≤ 500000 by omega))
        have HNO := Lib.hid (fun h2 => hno k rfl h2)
        have HMO := Lib.hid (fun op' root' h2 => hmore k u op' root' rfl h2 hu)
        clear hok hbad hno hmore htl hu htx
        go_wp2_with fail
        refine C2.out.mono ?_
        intro e0 w2 hp
        obtain ⟨PA, pn, pc, rfl, hpr, hb, hlo⟩ := hp.out
        simp only at hpr
        have ka := (Below.refl _ w2).alloc (Nat.le_refl _) (.cells #[.int .i64 k.kind, .int .i64 k.fro, .int .i64 k.to_, .string ⟨k.name.toArray⟩, .string ⟨k.text.toArray⟩, .slice PA pn pc, .int .i64 k.r] 30)
        have J1 := HJ.out.kept hb
        have jv := J1.kept ka
        have hq := hp_new w2 (.cells #[.int .i64 k.kind, .int .i64 k.fro, .int .i64 k.to_, .string ⟨k.name.toArray⟩, .string ⟨k.text.toArray⟩, .slice PA pn pc, .int .i64 k.r] 30)
        have hx := And.intro ((hpr.below ka).more ka.size) (fun (_ : 0 < pc) b i (hA : PA = some ⟨b, i, none⟩) => HJ.out.gro.fresh (hlo b i hA))
        have HF0 := Lib.hid (J1.gro.fresh (Nat.le_refl _))
        obtain ⟨SA, SN, SC, hsv, hSN⟩ : ∃ SA SN SC, sv = .slice SA SN SC ∧ SN = op.length := by
          obtain ⟨a, b, h⟩ := HJ.out.own.form
          exact ⟨a, _, b, h, rfl⟩
        subst hsv
        subst hs10
        have hSNb : (SN : Int) ≤ 40000 := by have := hopl.out; omega
        have hvl : vs.length ≤ 1000000000 := by have := hal.out; omega
        obtain ⟨V, hV⟩ : ∃ V, w2.alloc (.cells #[.int .i64 k.kind, .int .i64 k.fro, .int .i64 k.to_, .string ⟨k.name.toArray⟩, .string ⟨k.text.toArray⟩, .slice PA pn pc, .int .i64 k.r] 30) = V := ⟨_, rfl⟩
        rw [hV] at jv hq hx
        have JV := Lib.hid jv
        have HQ := Lib.hid hq
        have HX := Lib.hid hx
        have BV := Lib.hid jv.gro.below
        have x0 := cell_of 0 hq
        have x2 := cell_of 2 hq
        have x3 := cell_of 3 hq
        have x4 := cell_of 4 hq
        clear hpr hb hlo ka hp J1 jv hq hx
        by_cases e7 : k.kind = 7
        · have k7 : (k.kind == 7) = true := by simp [e7]
          have n1 : (k.kind != 1) = true := by simp [e7]
          cases whole with
          | false =>
            have hSNe := Lib.hid hSN.symm
            clear hSN
            have hms : mayS false op root k = some (op ++ [k.name], true) := by unfold mayS; rw [if_pos e7]; simp
            have HA2 := Lib.hid (HMO.out (op ++ [k.name]) true hms)
            have hleft : leftOut false op k = false := by simp [leftOut, (by simpa using n1 : k.kind ≠ 1)]
            have hd : Below V.heap.size V V.drew := below_drewN' (n := 1) (Below.refl _ _)
            have hvb : w.heap.size ≤ V.heap.size := JV.out.gro.base1
            have a1 := hd.alloc (Nat.le_refl _) (.cells #[] 9)
            have a2 := a1.alloc (by simp) (.cells #[.string ⟨k.name.toArray⟩] 9)
            have a3 := (hd.alloc (Nat.le_refl _) (.cells #[.string ⟨k.name.toArray⟩] 9)).alloc (by simp) (.cells #[] 9)
            have sz1 : (V.drew.alloc (.cells #[] 9)).heap.size = V.heap.size + 1 := World.size_alloc _ _
            have sz2 : ((V.drew.alloc (.cells #[] 9)).alloc (.cells #[.string ⟨k.name.toArray⟩] 9)).heap.size = V.heap.size + 1 + 1 := by rw [World.size_alloc, sz1]
            have sz3 : ((V.drew.alloc (.cells #[.string ⟨k.name.toArray⟩] 9)).alloc (.cells #[] 9)).heap.size = V.heap.size + 1 + 1 := by rw [World.size_alloc, World.size_alloc]; rfl
            have hz1 : w.heap.size ≤ (V.drew.alloc (.cells #[] 9)).heap.size := by rw [sz1]; omega
            have hv1 : V.heap.size ≤ (V.drew.alloc (.cells #[] 9)).heap.size := by rw [sz1]; exact Nat.le_succ _
            have hv2 : V.heap.size ≤ ((V.drew.alloc (.cells #[] 9)).alloc (.cells #[.string ⟨k.name.toArray⟩] 9)).heap.size := by rw [sz2]; exact Nat.le_add_right _ 2
            have hv3 : V.heap.size ≤ ((V.drew.alloc (.cells #[.string ⟨k.name.toArray⟩] 9)).alloc (.cells #[] 9)).heap.size := by rw [sz3]; exact Nat.le_add_right _ 2
            have hl2 : V.heap.size + 1 < ((V.drew.alloc (.cells #[] 9)).alloc (.cells #[.string ⟨k.name.toArray⟩] 9)).heap.size := by rw [sz2]; exact Nat.lt_succ_self _
            have hl3 : V.heap.size < ((V.drew.alloc (.cells #[.string ⟨k.name.toArray⟩] 9)).alloc (.cells #[] 9)).heap.size := by rw [sz3]; exact Nat.le_succ _
            have hz2 : w.heap.size ≤ ((V.drew.alloc (.cells #[] 9)).alloc (.cells #[.string ⟨k.name.toArray⟩] 9)).heap.size := by rw [sz2]; omega
            have hz3 : w.heap.size ≤ ((V.drew.alloc (.cells #[.string ⟨k.name.toArray⟩] 9)).alloc (.cells #[] 9)).heap.size := by rw [sz3]; omega
            have o1 : OwnS (V.drew.alloc (.cells #[] 9)) w.heap.size (.slice (some ⟨V.heap.size, 0, none⟩) 0 0) [] := OwnS.lit V.drew _ hvb
            have o2 : OwnS ((V.drew.alloc (.cells #[] 9)).alloc (.cells #[.string ⟨k.name.toArray⟩] 9)) w.heap.size (.slice (some ⟨V.heap.size, 0, none⟩) 0 0) [] := o1.kept ((Below.refl _ _).alloc (Nat.le_refl _) _)
            have o3 : OwnS ((V.drew.alloc (.cells #[.string ⟨k.name.toArray⟩] 9)).alloc (.cells #[] 9)) w.heap.size (.slice (some ⟨V.heap.size + 1, 0, none⟩) 0 0) [] := by
              have := OwnS.lit (V.drew.alloc (.cells #[.string ⟨k.name.toArray⟩] 9)) w.heap.size (by rw [World.size_alloc]; exact Nat.le_succ_of_le hvb)
              rw [World.size_alloc] at this
              exact this
            have q1 : ∀ ad, SA = some ad → ∀ (j : Nat) u, ((op).map strV)[j]? = some u → (V.drew.alloc (.cells #[] 9)).cell? (ad.add j) = some u := fun ad h => by
              subst h
              exact (JV.out.own.kept a1).cells
            have q2 : ∀ ad, SA = some ad → ∀ (j : Nat) u, ((op).map strV)[j]? = some u → ((V.drew.alloc (.cells #[] 9)).alloc (.cells #[.string ⟨k.name.toArray⟩] 9)).cell? (ad.add j) = some u := fun ad h => by
              subst h
              exact (JV.out.own.kept a2).cells
            have q3 : ∀ ad, SA = some ad → ∀ (j : Nat) u, ((op).map strV)[j]? = some u → ((V.drew.alloc (.cells #[.string ⟨k.name.toArray⟩] 9)).alloc (.cells #[] 9)).cell? (ad.add j) = some u := fun ad h => by
              subst h
              exact (JV.out.own.kept a3).cells
            have g2 : ((V.drew.alloc (.cells #[] 9)).alloc (.cells #[.string ⟨k.name.toArray⟩] 9)).heap[V.heap.size + 1]? = some (.cells #[.string ⟨k.name.toArray⟩] 9) := by
              have := hp_new (V.drew.alloc (.cells #[] 9)) (.cells #[.string ⟨k.name.toArray⟩] 9)
              rwa [sz1] at this
            have g3 : ((V.drew.alloc (.cells #[.string ⟨k.name.toArray⟩] 9)).alloc (.cells #[] 9)).heap[V.heap.size]? = some (.cells #[.string ⟨k.name.toArray⟩] 9) := by
              rw [Below.heap_alloc _ _ _ (by rw [World.size_alloc]; exact Nat.lt_succ_self _)]
              exact hp_new _ _
            have hnil : SA = none → SN = 0 ∧ SC = 0 := fun h => by
              subst h
              exact JV.out.own.nilS
            have hbd : ([] : List (List UInt8)).length + SN ≤ 1000000 := by simp; omega
            have hbd2 : (([] : List (List UInt8)) ++ (op)).length + 1 ≤ 1000000 := by rw [List.nil_append, hSNe.out]; omega
            have hltV : w2.heap.size < V.heap.size := lt_of HQ.out
            have xd3 : V.drew.cell? ⟨w2.heap.size, 3, none⟩ = some (.string ⟨k.name.toArray⟩) := x3
            clear hms HMO HNO e7
            go_wp2_with fail
            go_region_law (first
              | (refine stepAppS rfl (.tmp 59) (.tmp 62) rfl w.heap.size _ ([] ++ (op)) rfl o1' (some ⟨w1.heap.size, 0, none⟩) 1 1 rfl [k.name] rfl (fun ad h => by cases h; exact news_one g1') (fun h => by cases h) hbd2 hb9 ?_
                 intro v9 w9 hown9 hg9 hat9
                 have B9 := Lib.hid (b1'.grown hg9 b1'.size fun j hj => own_far1 hat1 hj rfl (Nat.le_refl _) hv1)
                 have O9 := Lib.hid hown9)
              | (refine stepAppS rfl (.tmp 59) (.tmp 62) rfl w.heap.size _ ([] ++ (op)) rfl hown1 (some ⟨V.heap.size + 1, 0, none⟩) 1 1 rfl [k.name] rfl (fun ad h => by cases h; exact news_one g2') (fun h => by cases h) hbd2 hb9 ?_
                 intro v9 w9 hown9 hg9 hat9
                 have B9 := Lib.hid (B1.grown hg9 B1.size fun j hj => own_far1 hat1 hj rfl (Nat.le_refl _) hv2)
                 have O9 := Lib.hid hown9)
              | (refine stepAppS rfl (.tmp 59) (.tmp 62) rfl w.heap.size _ ([] ++ (op)) rfl hown1 (some ⟨V.heap.size, 0, none⟩) 1 1 rfl [k.name] rfl (fun ad h => by cases h; exact news_one g3') (fun h => by cases h) hbd2 hb9 ?_
                 intro v9 w9 hown9 hg9 hat9
                 have B9 := Lib.hid (B1.grown hg9 B1.size fun j hj => own_far1 hat1 hj rfl (Nat.le_succ _) hv3)
                 have O9 := Lib.hid hown9)
              | (refine stepAppS rfl (.tmp 57) (.tmp 58) rfl w.heap.size _ [] rfl o1 SA SN SC rfl (op) hSNe.out q1 hnil hbd hz1 ?_
                 intro v1 w1 hown1 hg1 hat1
                 have B1 := a1.grown hg1 a1.size fun j hj => (by cases hj; exact Nat.le_refl _)
                 have hb9 : w.heap.size ≤ (w1.alloc (.cells #[.string ⟨k.name.toArray⟩] 9)).heap.size := by rw [World.size_alloc]; exact Nat.le_trans hvb (Nat.le_trans B1.size (Nat.le_succ _))
                 have y3 : w1.cell? ⟨w2.heap.size, 3, none⟩ = some (.string ⟨k.name.toArray⟩) := (B1.cell (p := ⟨w2.heap.size, 3, none⟩) hltV).trans x3
                 have b1' := B1.trans (((Below.refl _ w1).alloc (Nat.le_refl _) (.cells #[.string ⟨k.name.toArray⟩] 9)).mono B1.size)
                 have o1' := hown1.kept ((Below.refl _ w1).alloc (Nat.le_refl _) (.cells #[.string ⟨k.name.toArray⟩] 9))
                 have g1' := hp_new w1 (.cells #[.string ⟨k.name.toArray⟩] 9))
              | (refine stepAppS rfl (.tmp 57) (.tmp 58) rfl w.heap.size _ [] rfl o2 SA SN SC rfl (op) hSNe.out q2 hnil hbd hz2 ?_
                 intro v1 w1 hown1 hg1 hat1
                 have B1 := a2.grown hg1 a2.size fun j hj => (by cases hj; exact Nat.le_refl _)
                 have hb9 : w.heap.size ≤ w1.heap.size := Nat.le_trans hvb B1.size
                 have g2' : w1.heap[V.heap.size + 1]? = some (.cells #[.string ⟨k.name.toArray⟩] 9) := (hg1.block _ hl2 (fun h => absurd (Option.some.inj (show some (V.heap.size + 1) = some V.heap.size from h)) (Nat.succ_ne_self _))).trans g2)
              | (refine stepAppS rfl (.tmp 57) (.tmp 58) rfl w.heap.size _ [] rfl o3 SA SN SC rfl (op) hSNe.out q3 hnil hbd hz3 ?_
                 intro v1 w1 hown1 hg1 hat1
                 have B1 := a3.grown hg1 a3.size fun j hj => (by cases hj; exact Nat.le_succ _)
                 have hb9 : w.heap.size ≤ w1.heap.size := Nat.le_trans hvb B1.size
                 have g3' : w1.heap[V.heap.size]? = some (.cells #[.string ⟨k.name.toArray⟩] 9) := (hg1.block _ hl3 (fun h => absurd (Option.some.inj (show some V.heap.size = some (V.heap.size + 1) from h)) (Nat.ne_of_lt (Nat.lt_succ_self _)))).trans g3))
            all_goals
              have HBX := B9
              have JX : Hid (RV w w9 _ vs v9 (op ++ [k.name])) := Lib.hid ⟨(JV.out.kept HBX.out).gro, O9.out⟩
              have HQX : Hid (w9.heap[w2.heap.size]? = some (.cells #[.int .i64 k.kind, .int .i64 k.fro, .int .i64 k.to_, .string ⟨k.name.toArray⟩, .string ⟨k.text.toArray⟩, .slice PA pn pc, .int .i64 k.r] 30)) := Lib.hid ((HBX.out.block _ (lt_of HQ.out)).trans HQ.out)
              have r0 := cell_of 0 HQX.out
              have r2 := cell_of 2 HQX.out
              have hba : w.heap.size ≤ w9.heap.size := JX.out.gro.base1
              have HA3 : Hid (R = overR l false f ((vs ++ [(⟨k, PA, pn, pc⟩ : TokV)]).map TokV.t) (op ++ [k.name]) true u) := Lib.hid (by rw [HA2.out, if_neg (by rw [hleft]; simp), List.map_append]; rfl)
              have HPX : Hid (PRd w9 w9.heap.size PA pn pc k.pairs ∧ (0 < pc → ∀ b i, PA = some ⟨b, i, none⟩ → some b ≠ Value.ownBlock _)) := Lib.hid ⟨(HX.out.1.below HBX.out).more HBX.out.size, HX.out.2⟩
              have hxs : w2.heap.size < w9.heap.size := lt_of HQX.out
              clear hleft HA2
              go_wp2_with (first
                | (refine wpList_load_row rfl _ _ rfl w2.heap.size rfl _ _ _ _ HQX.out HU.out.2 rfl HU.out.1 ?_)
                | (at_builtin; refine wpList_appK rfl (.tmp 108) (.tmp 110) 39 30 rfl (.agg #[.int .i64 0, .int .i64 0, .int .i64 0, .string ⟨#[]⟩, .string ⟨#[]⟩, .slice none 0 0, .int .i64 0]) 7 88 Tryz.underlying39 info_rtok rfl (by decide) w.heap.size _ vs.length (cellsK vs) rfl JX.out.gro.own (TokV.cells ⟨k, PA, pn, pc⟩) _ rfl rfl rfl (cells_one _) hvl (by decide) hba ?_))
              intro v5 w5 hown5 hg5 hat5
              have J5 := Lib.hid (JX.out.appended (x := ⟨k, PA, pn, pc⟩) HPX.out.1 HPX.out.2 hown5 hg5 hat5)
              have x2' : w5.cell? ⟨w2.heap.size, 2, none⟩ = some (.int .i64 k.to_) := cell_of 2 ((hg5.block w2.heap.size (by simp; omega) (HF0.out)).trans ((Below.heap_alloc _ _ _ hxs).trans HQX.out))
              clear hown5 hg5 hat5 r0 r2
              go_wp2
              go_roundg (f - 1)
              case measure => have := hg.out; have := hgf.out; omega
              case rel => exact ⟨u, vs ++ [⟨k, PA, pn, pc⟩], f - 1, (op ++ [k.name]), true, _, rfl, by rw [HUu.out], rfl, by omega, Lib.hid rfl, Lib.hid (by have := hg.out; omega), Lib.hid (by have := hal.out; simp; omega), Lib.hid (by have := hopl.out; simp at this ⊢; omega), Lib.hid (by rw [HA3.out, show f - 1 + 1 = f by have := hg.out; omega]), J5⟩
          | true =>
            cases op with
            | nil =>
              have hsn : ((SN : Int) == 0) = true := by rw [hSN]; rfl
              have hSNe := Lib.hid hSN.symm
              clear hSN
              cases root with
              | false =>
                have hms : mayS true [] false k = some ([] ++ [k.name], true) := by unfold mayS; rw [if_pos e7]; simp
                have HA2 := Lib.hid (HMO.out ([] ++ [k.name]) true hms)
                have hleft : leftOut true [] k = false := by simp [leftOut, (by simpa using n1 : k.kind ≠ 1)]
                have hd : Below V.heap.size V V.drew := below_drewN' (n := 1) (Below.refl _ _)
                have hvb : w.heap.size ≤ V.heap.size := JV.out.gro.base1
                have a1 := hd.alloc (Nat.le_refl _) (.cells #[] 9)
                have a2 := a1.alloc (by simp) (.cells #[.string ⟨k.name.toArray⟩] 9)
                have a3 := (hd.alloc (Nat.le_refl _) (.cells #[.string ⟨k.name.toArray⟩] 9)).alloc (by simp) (.cells #[] 9)
                have sz1 : (V.drew.alloc (.cells #[] 9)).heap.size = V.heap.size + 1 := World.size_alloc _ _
                have sz2 : ((V.drew.alloc (.cells #[] 9)).alloc (.cells #[.string ⟨k.name.toArray⟩] 9)).heap.size = V.heap.size + 1 + 1 := by rw [World.size_alloc, sz1]
                have sz3 : ((V.drew.alloc (.cells #[.string ⟨k.name.toArray⟩] 9)).alloc (.cells #[] 9)).heap.size = V.heap.size + 1 + 1 := by rw [World.size_alloc, World.size_alloc]; rfl
                have hz1 : w.heap.size ≤ (V.drew.alloc (.cells #[] 9)).heap.size := by rw [sz1]; omega
                have hv1 : V.heap.size ≤ (V.drew.alloc (.cells #[] 9)).heap.size := by rw [sz1]; exact Nat.le_succ _
                have hv2 : V.heap.size ≤ ((V.drew.alloc (.cells #[] 9)).alloc (.cells #[.string ⟨k.name.toArray⟩] 9)).heap.size := by rw [sz2]; exact Nat.le_add_right _ 2
                have hv3 : V.heap.size ≤ ((V.drew.alloc (.cells #[.string ⟨k.name.toArray⟩] 9)).alloc (.cells #[] 9)).heap.size := by rw [sz3]; exact Nat.le_add_right _ 2
                have hl2 : V.heap.size + 1 < ((V.drew.alloc (.cells #[] 9)).alloc (.cells #[.string ⟨k.name.toArray⟩] 9)).heap.size := by rw [sz2]; exact Nat.lt_succ_self _
                have hl3 : V.heap.size < ((V.drew.alloc (.cells #[.string ⟨k.name.toArray⟩] 9)).alloc (.cells #[] 9)).heap.size := by rw [sz3]; exact Nat.le_succ _
                have hz2 : w.heap.size ≤ ((V.drew.alloc (.cells #[] 9)).alloc (.cells #[.string ⟨k.name.toArray⟩] 9)).heap.size := by rw [sz2]; omega
                have hz3 : w.heap.size ≤ ((V.drew.alloc (.cells #[.string ⟨k.name.toArray⟩] 9)).alloc (.cells #[] 9)).heap.size := by rw [sz3]; omega
                have o1 : OwnS (V.drew.alloc (.cells #[] 9)) w.heap.size (.slice (some ⟨V.heap.size, 0, none⟩) 0 0) [] := OwnS.lit V.drew _ hvb
                have o2 : OwnS ((V.drew.alloc (.cells #[] 9)).alloc (.cells #[.string ⟨k.name.toArray⟩] 9)) w.heap.size (.slice (some ⟨V.heap.size, 0, none⟩) 0 0) [] := o1.kept ((Below.refl _ _).alloc (Nat.le_refl _) _)
                have o3 : OwnS ((V.drew.alloc (.cells #[.string ⟨k.name.toArray⟩] 9)).alloc (.cells #[] 9)) w.heap.size (.slice (some ⟨V.heap.size + 1, 0, none⟩) 0 0) [] := by
                  have := OwnS.lit (V.drew.alloc (.cells #[.string ⟨k.name.toArray⟩] 9)) w.heap.size (by rw [World.size_alloc]; exact Nat.le_succ_of_le hvb)
                  rw [World.size_alloc] at this
                  exact this
                have q1 : ∀ ad, SA = some ad → ∀ (j : Nat) u, (([]).map strV)[j]? = some u → (V.drew.alloc (.cells #[] 9)).cell? (ad.add j) = some u := fun ad h => by
                  subst h
                  exact (JV.out.own.kept a1).cells
                have q2 : ∀ ad, SA = some ad → ∀ (j : Nat) u, (([]).map strV)[j]? = some u → ((V.drew.alloc (.cells #[] 9)).alloc (.cells #[.string ⟨k.name.toArray⟩] 9)).cell? (ad.add j) = some u := fun ad h => by
                  subst h
                  exact (JV.out.own.kept a2).cells
                have q3 : ∀ ad, SA = some ad → ∀ (j : Nat) u, (([]).map strV)[j]? = some u → ((V.drew.alloc (.cells #[.string ⟨k.name.toArray⟩] 9)).alloc (.cells #[] 9)).cell? (ad.add j) = some u := fun ad h => by
                  subst h
                  exact (JV.out.own.kept a3).cells
                have g2 : ((V.drew.alloc (.cells #[] 9)).alloc (.cells #[.string ⟨k.name.toArray⟩] 9)).heap[V.heap.size + 1]? = some (.cells #[.string ⟨k.name.toArray⟩] 9) := by
                  have := hp_new (V.drew.alloc (.cells #[] 9)) (.cells #[.string ⟨k.name.toArray⟩] 9)
                  rwa [sz1] at this
                have g3 : ((V.drew.alloc (.cells #[.string ⟨k.name.toArray⟩] 9)).alloc (.cells #[] 9)).heap[V.heap.size]? = some (.cells #[.string ⟨k.name.toArray⟩] 9) := by
                  rw [Below.heap_alloc _ _ _ (by rw [World.size_alloc]; exact Nat.lt_succ_self _)]
                  exact hp_new _ _
                have hnil : SA = none → SN = 0 ∧ SC = 0 := fun h => by
                  subst h
                  exact JV.out.own.nilS
                have hbd : ([] : List (List UInt8)).length + SN ≤ 1000000 := by simp; omega
                have hbd2 : (([] : List (List UInt8)) ++ ([])).length + 1 ≤ 1000000 := by rw [List.nil_append, hSNe.out]; omega
                have hltV : w2.heap.size < V.heap.size := lt_of HQ.out
                have xd3 : V.drew.cell? ⟨w2.heap.size, 3, none⟩ = some (.string ⟨k.name.toArray⟩) := x3
                clear hms HMO HNO e7
                go_wp2_with fail
                go_region_law (first
                  | (refine stepAppS rfl (.tmp 59) (.tmp 62) rfl w.heap.size _ ([] ++ ([])) rfl o1' (some ⟨w1.heap.size, 0, none⟩) 1 1 rfl [k.name] rfl (fun ad h => by cases h; exact news_one g1') (fun h => by cases h) hbd2 hb9 ?_
                     intro v9 w9 hown9 hg9 hat9
                     have B9 := Lib.hid (b1'.grown hg9 b1'.size fun j hj => own_far1 hat1 hj rfl (Nat.le_refl _) hv1)
                     have O9 := Lib.hid hown9)
                  | (refine stepAppS rfl (.tmp 59) (.tmp 62) rfl w.heap.size _ ([] ++ ([])) rfl hown1 (some ⟨V.heap.size + 1, 0, none⟩) 1 1 rfl [k.name] rfl (fun ad h => by cases h; exact news_one g2') (fun h => by cases h) hbd2 hb9 ?_
                     intro v9 w9 hown9 hg9 hat9
                     have B9 := Lib.hid (B1.grown hg9 B1.size fun j hj => own_far1 hat1 hj rfl (Nat.le_refl _) hv2)
                     have O9 := Lib.hid hown9)
                  | (refine stepAppS rfl (.tmp 59) (.tmp 62) rfl w.heap.size _ ([] ++ ([])) rfl hown1 (some ⟨V.heap.size, 0, none⟩) 1 1 rfl [k.name] rfl (fun ad h => by cases h; exact news_one g3') (fun h => by cases h) hbd2 hb9 ?_
                     intro v9 w9 hown9 hg9 hat9
                     have B9 := Lib.hid (B1.grown hg9 B1.size fun j hj => own_far1 hat1 hj rfl (Nat.le_succ _) hv3)
                     have O9 := Lib.hid hown9)
                  | (refine stepAppS rfl (.tmp 57) (.tmp 58) rfl w.heap.size _ [] rfl o1 SA SN SC rfl ([]) hSNe.out q1 hnil hbd hz1 ?_
                     intro v1 w1 hown1 hg1 hat1
                     have B1 := a1.grown hg1 a1.size fun j hj => (by cases hj; exact Nat.le_refl _)
                     have hb9 : w.heap.size ≤ (w1.alloc (.cells #[.string ⟨k.name.toArray⟩] 9)).heap.size := by rw [World.size_alloc]; exact Nat.le_trans hvb (Nat.le_trans B1.size (Nat.le_succ _))
                     have y3 : w1.cell? ⟨w2.heap.size, 3, none⟩ = some (.string ⟨k.name.toArray⟩) := (B1.cell (p := ⟨w2.heap.size, 3, none⟩) hltV).trans x3
                     have b1' := B1.trans (((Below.refl _ w1).alloc (Nat.le_refl _) (.cells #[.string ⟨k.name.toArray⟩] 9)).mono B1.size)
                     have o1' := hown1.kept ((Below.refl _ w1).alloc (Nat.le_refl _) (.cells #[.string ⟨k.name.toArray⟩] 9))
                     have g1' := hp_new w1 (.cells #[.string ⟨k.name.toArray⟩] 9))
                  | (refine stepAppS rfl (.tmp 57) (.tmp 58) rfl w.heap.size _ [] rfl o2 SA SN SC rfl ([]) hSNe.out q2 hnil hbd hz2 ?_
                     intro v1 w1 hown1 hg1 hat1
                     have B1 := a2.grown hg1 a2.size fun j hj => (by cases hj; exact Nat.le_refl _)
                     have hb9 : w.heap.size ≤ w1.heap.size := Nat.le_trans hvb B1.size
                     have g2' : w1.heap[V.heap.size + 1]? = some (.cells #[.string ⟨k.name.toArray⟩] 9) := (hg1.block _ hl2 (fun h => absurd (Option.some.inj (show some (V.heap.size + 1) = some V.heap.size from h)) (Nat.succ_ne_self _))).trans g2)
                  | (refine stepAppS rfl (.tmp 57) (.tmp 58) rfl w.heap.size _ [] rfl o3 SA SN SC rfl ([]) hSNe.out q3 hnil hbd hz3 ?_
                     intro v1 w1 hown1 hg1 hat1
                     have B1 := a3.grown hg1 a3.size fun j hj => (by cases hj; exact Nat.le_succ _)
                     have hb9 : w.heap.size ≤ w1.heap.size := Nat.le_trans hvb B1.size
                     have g3' : w1.heap[V.heap.size]? = some (.cells #[.string ⟨k.name.toArray⟩] 9) := (hg1.block _ hl3 (fun h => absurd (Option.some.inj (show some V.heap.size = some (V.heap.size + 1) from h)) (Nat.ne_of_lt (Nat.lt_succ_self _)))).trans g3))
                all_goals
                  have HBX := B9
                  have JX : Hid (RV w w9 _ vs v9 ([] ++ [k.name])) := Lib.hid ⟨(JV.out.kept HBX.out).gro, O9.out⟩
                  have HQX : Hid (w9.heap[w2.heap.size]? = some (.cells #[.int .i64 k.kind, .int .i64 k.fro, .int .i64 k.to_, .string ⟨k.name.toArray⟩, .string ⟨k.text.toArray⟩, .slice PA pn pc, .int .i64 k.r] 30)) := Lib.hid ((HBX.out.block _ (lt_of HQ.out)).trans HQ.out)
                  have r0 := cell_of 0 HQX.out
                  have r2 := cell_of 2 HQX.out
                  have hba : w.heap.size ≤ w9.heap.size := JX.out.gro.base1
                  have HA3 : Hid (R = overR l true f ((vs ++ [(⟨k, PA, pn, pc⟩ : TokV)]).map TokV.t) ([] ++ [k.name]) true u) := Lib.hid (by rw [HA2.out, if_neg (by rw [hleft]; simp), List.map_append]; rfl)
                  have HPX : Hid (PRd w9 w9.heap.size PA pn pc k.pairs ∧ (0 < pc → ∀ b i, PA = some ⟨b, i, none⟩ → some b ≠ Value.ownBlock _)) := Lib.hid ⟨(HX.out.1.below HBX.out).more HBX.out.size, HX.out.2⟩
                  have hxs : w2.heap.size < w9.heap.size := lt_of HQX.out
                  clear hleft HA2
                  go_wp2_with (first
                    | (refine wpList_load_row rfl _ _ rfl w2.heap.size rfl _ _ _ _ HQX.out HU.out.2 rfl HU.out.1 ?_)
                    | (at_builtin; refine wpList_appK rfl (.tmp 108) (.tmp 110) 39 30 rfl (.agg #[.int .i64 0, .int .i64 0, .int .i64 0, .string ⟨#[]⟩, .string ⟨#[]⟩, .slice none 0 0, .int .i64 0]) 7 88 Tryz.underlying39 info_rtok rfl (by decide) w.heap.size _ vs.length (cellsK vs) rfl JX.out.gro.own (TokV.cells ⟨k, PA, pn, pc⟩) _ rfl rfl rfl (cells_one _) hvl (by decide) hba ?_))
                  intro v5 w5 hown5 hg5 hat5
                  have J5 := Lib.hid (JX.out.appended (x := ⟨k, PA, pn, pc⟩) HPX.out.1 HPX.out.2 hown5 hg5 hat5)
                  have x2' : w5.cell? ⟨w2.heap.size, 2, none⟩ = some (.int .i64 k.to_) := cell_of 2 ((hg5.block w2.heap.size (by simp; omega) (HF0.out)).trans ((Below.heap_alloc _ _ _ hxs).trans HQX.out))
                  clear hown5 hg5 hat5 r0 r2
                  go_wp2
                  go_roundg (f - 1)
                  case measure => have := hg.out; have := hgf.out; omega
                  case rel => exact ⟨u, vs ++ [⟨k, PA, pn, pc⟩], f - 1, ([] ++ [k.name]), true, _, rfl, by rw [HUu.out], rfl, by omega, Lib.hid rfl, Lib.hid (by have := hg.out; omega), Lib.hid (by have := hal.out; simp; omega), Lib.hid (by have := hopl.out; simp at this ⊢; omega), Lib.hid (by rw [HA3.out, show f - 1 + 1 = f by have := hg.out; omega]), J5⟩
              | true =>
                have hms : mayS true [] true k = none := by unfold mayS; rw [if_pos e7]; simp
                have HA2 := Lib.hid (HNO.out hms)
                clear hms HMO HNO e7
                go_wp2
                go_ret3
                rw [HA2.out]
                exact AllPost.bad rfl BV.out
            | cons a op =>
              have hsn : ((SN : Int) == 0) = false := by rw [hSN, List.length_cons]; simp; omega
              have hSNe := Lib.hid hSN.symm
              clear hSN
              have hms : mayS true (a :: op) root k = some ((a :: op) ++ [k.name], true) := by unfold mayS; rw [if_pos e7]; simp
              have HA2 := Lib.hid (HMO.out ((a :: op) ++ [k.name]) true hms)
              have hleft : leftOut true (a :: op) k = false := by simp [leftOut, (by simpa using n1 : k.kind ≠ 1)]
              have hd : Below V.heap.size V V.drew := below_drewN' (n := 1) (Below.refl _ _)
              have hvb : w.heap.size ≤ V.heap.size := JV.out.gro.base1
              have a1 := hd.alloc (Nat.le_refl _) (.cells #[] 9)
              have a2 := a1.alloc (by simp) (.cells #[.string ⟨k.name.toArray⟩] 9)
              have a3 := (hd.alloc (Nat.le_refl _) (.cells #[.string ⟨k.name.toArray⟩] 9)).alloc (by simp) (.cells #[] 9)
              have sz1 : (V.drew.alloc (.cells #[] 9)).heap.size = V.heap.size + 1 := World.size_alloc _ _
              have sz2 : ((V.drew.alloc (.cells #[] 9)).alloc (.cells #[.string ⟨k.name.toArray⟩] 9)).heap.size = V.heap.size + 1 + 1 := by rw [World.size_alloc, sz1]
              have sz3 : ((V.drew.alloc (.cells #[.string ⟨k.name.toArray⟩] 9)).alloc (.cells #[] 9)).heap.size = V.heap.size + 1 + 1 := by rw [World.size_alloc, World.size_alloc]; rfl
              have hz1 : w.heap.size ≤ (V.drew.alloc (.cells #[] 9)).heap.size := by rw [sz1]; omega
              have hv1 : V.heap.size ≤ (V.drew.alloc (.cells #[] 9)).heap.size := by rw [sz1]; exact Nat.le_succ _
              have hv2 : V.heap.size ≤ ((V.drew.alloc (.cells #[] 9)).alloc (.cells #[.string ⟨k.name.toArray⟩] 9)).heap.size := by rw [sz2]; exact Nat.le_add_right _ 2
              have hv3 : V.heap.size ≤ ((V.drew.alloc (.cells #[.string ⟨k.name.toArray⟩] 9)).alloc (.cells #[] 9)).heap.size := by rw [sz3]; exact Nat.le_add_right _ 2
              have hl2 : V.heap.size + 1 < ((V.drew.alloc (.cells #[] 9)).alloc (.cells #[.string ⟨k.name.toArray⟩] 9)).heap.size := by rw [sz2]; exact Nat.lt_succ_self _
              have hl3 : V.heap.size < ((V.drew.alloc (.cells #[.string ⟨k.name.toArray⟩] 9)).alloc (.cells #[] 9)).heap.size := by rw [sz3]; exact Nat.le_succ _
              have hz2 : w.heap.size ≤ ((V.drew.alloc (.cells #[] 9)).alloc (.cells #[.string ⟨k.name.toArray⟩] 9)).heap.size := by rw [sz2]; omega
              have hz3 : w.heap.size ≤ ((V.drew.alloc (.cells #[.string ⟨k.name.toArray⟩] 9)).alloc (.cells #[] 9)).heap.size := by rw [sz3]; omega
              have o1 : OwnS (V.drew.alloc (.cells #[] 9)) w.heap.size (.slice (some ⟨V.heap.size, 0, none⟩) 0 0) [] := OwnS.lit V.drew _ hvb
              have o2 : OwnS ((V.drew.alloc (.cells #[] 9)).alloc (.cells #[.string ⟨k.name.toArray⟩] 9)) w.heap.size (.slice (some ⟨V.heap.size, 0, none⟩) 0 0) [] := o1.kept ((Below.refl _ _).alloc (Nat.le_refl _) _)
              have o3 : OwnS ((V.drew.alloc (.cells #[.string ⟨k.name.toArray⟩] 9)).alloc (.cells #[] 9)) w.heap.size (.slice (some ⟨V.heap.size + 1, 0, none⟩) 0 0) [] := by
                have := OwnS.lit (V.drew.alloc (.cells #[.string ⟨k.name.toArray⟩] 9)) w.heap.size (by rw [World.size_alloc]; exact Nat.le_succ_of_le hvb)
                rw [World.size_alloc] at this
                exact this
              have q1 : ∀ ad, SA = some ad → ∀ (j : Nat) u, (((a :: op)).map strV)[j]? = some u → (V.drew.alloc (.cells #[] 9)).cell? (ad.add j) = some u := fun ad h => by
                subst h
                exact (JV.out.own.kept a1).cells
              have q2 : ∀ ad, SA = some ad → ∀ (j : Nat) u, (((a :: op)).map strV)[j]? = some u → ((V.drew.alloc (.cells #[] 9)).alloc (.cells #[.string ⟨k.name.toArray⟩] 9)).cell? (ad.add j) = some u := fun ad h => by
                subst h
                exact (JV.out.own.kept a2).cells
              have q3 : ∀ ad, SA = some ad → ∀ (j : Nat) u, (((a :: op)).map strV)[j]? = some u → ((V.drew.alloc (.cells #[.string ⟨k.name.toArray⟩] 9)).alloc (.cells #[] 9)).cell? (ad.add j) = some u := fun ad h => by
                subst h
                exact (JV.out.own.kept a3).cells
              have g2 : ((V.drew.alloc (.cells #[] 9)).alloc (.cells #[.string ⟨k.name.toArray⟩] 9)).heap[V.heap.size + 1]? = some (.cells #[.string ⟨k.name.toArray⟩] 9) := by
                have := hp_new (V.drew.alloc (.cells #[] 9)) (.cells #[.string ⟨k.name.toArray⟩] 9)
                rwa [sz1] at this
              have g3 : ((V.drew.alloc (.cells #[.string ⟨k.name.toArray⟩] 9)).alloc (.cells #[] 9)).heap[V.heap.size]? = some (.cells #[.string ⟨k.name.toArray⟩] 9) := by
                rw [Below.heap_alloc _ _ _ (by rw [World.size_alloc]; exact Nat.lt_succ_self _)]
                exact hp_new _ _
              have hnil : SA = none → SN = 0 ∧ SC = 0 := fun h => by
                subst h
                exact JV.out.own.nilS
              have hbd : ([] : List (List UInt8)).length + SN ≤ 1000000 := by simp; omega
              have hbd2 : (([] : List (List UInt8)) ++ ((a :: op))).length + 1 ≤ 1000000 := by rw [List.nil_append, hSNe.out]; omega
              have hltV : w2.heap.size < V.heap.size := lt_of HQ.out
              have xd3 : V.drew.cell? ⟨w2.heap.size, 3, none⟩ = some (.string ⟨k.name.toArray⟩) := x3
              clear hms HMO HNO e7
              go_wp2_with fail
              go_region_law (first
                | (refine stepAppS rfl (.tmp 59) (.tmp 62) rfl w.heap.size _ ([] ++ ((a :: op))) rfl o1' (some ⟨w1.heap.size, 0, none⟩) 1 1 rfl [k.name] rfl (fun ad h => by cases h; exact news_one g1') (fun h => by cases h) hbd2 hb9 ?_
                   intro v9 w9 hown9 hg9 hat9
                   have B9 := Lib.hid (b1'.grown hg9 b1'.size fun j hj => own_far1 hat1 hj rfl (Nat.le_refl _) hv1)
                   have O9 := Lib.hid hown9)
                | (refine stepAppS rfl (.tmp 59) (.tmp 62) rfl w.heap.size _ ([] ++ ((a :: op))) rfl hown1 (some ⟨V.heap.size + 1, 0, none⟩) 1 1 rfl [k.name] rfl (fun ad h => by cases h; exact news_one g2') (fun h => by cases h) hbd2 hb9 ?_
                   intro v9 w9 hown9 hg9 hat9
                   have B9 := Lib.hid (B1.grown hg9 B1.size fun j hj => own_far1 hat1 hj rfl (Nat.le_refl _) hv2)
                   have O9 := Lib.hid hown9)
                | (refine stepAppS rfl (.tmp 59) (.tmp 62) rfl w.heap.size _ ([] ++ ((a :: op))) rfl hown1 (some ⟨V.heap.size, 0, none⟩) 1 1 rfl [k.name] rfl (fun ad h => by cases h; exact news_one g3') (fun h => by cases h) hbd2 hb9 ?_
                   intro v9 w9 hown9 hg9 hat9
                   have B9 := Lib.hid (B1.grown hg9 B1.size fun j hj => own_far1 hat1 hj rfl (Nat.le_succ _) hv3)
                   have O9 := Lib.hid hown9)
                | (refine stepAppS rfl (.tmp 57) (.tmp 58) rfl w.heap.size _ [] rfl o1 SA SN SC rfl ((a :: op)) hSNe.out q1 hnil hbd hz1 ?_
                   intro v1 w1 hown1 hg1 hat1
                   have B1 := a1.grown hg1 a1.size fun j hj => (by cases hj; exact Nat.le_refl _)
                   have hb9 : w.heap.size ≤ (w1.alloc (.cells #[.string ⟨k.name.toArray⟩] 9)).heap.size := by rw [World.size_alloc]; exact Nat.le_trans hvb (Nat.le_trans B1.size (Nat.le_succ _))
                   have y3 : w1.cell? ⟨w2.heap.size, 3, none⟩ = some (.string ⟨k.name.toArray⟩) := (B1.cell (p := ⟨w2.heap.size, 3, none⟩) hltV).trans x3
                   have b1' := B1.trans (((Below.refl _ w1).alloc (Nat.le_refl _) (.cells #[.string ⟨k.name.toArray⟩] 9)).mono B1.size)
                   have o1' := hown1.kept ((Below.refl _ w1).alloc (Nat.le_refl _) (.cells #[.string ⟨k.name.toArray⟩] 9))
                   have g1' := hp_new w1 (.cells #[.string ⟨k.name.toArray⟩] 9))
                | (refine stepAppS rfl (.tmp 57) (.tmp 58) rfl w.heap.size _ [] rfl o2 SA SN SC rfl ((a :: op)) hSNe.out q2 hnil hbd hz2 ?_
                   intro v1 w1 hown1 hg1 hat1
                   have B1 := a2.grown hg1 a2.size fun j hj => (by cases hj; exact Nat.le_refl _)
                   have hb9 : w.heap.size ≤ w1.heap.size := Nat.le_trans hvb B1.size
                   have g2' : w1.heap[V.heap.size + 1]? = some (.cells #[.string ⟨k.name.toArray⟩] 9) := (hg1.block _ hl2 (fun h => absurd (Option.some.inj (show some (V.heap.size + 1) = some V.heap.size from h)) (Nat.succ_ne_self _))).trans g2)
                | (refine stepAppS rfl (.tmp 57) (.tmp 58) rfl w.heap.size _ [] rfl o3 SA SN SC rfl ((a :: op)) hSNe.out q3 hnil hbd hz3 ?_
                   intro v1 w1 hown1 hg1 hat1
                   have B1 := a3.grown hg1 a3.size fun j hj => (by cases hj; exact Nat.le_succ _)
                   have hb9 : w.heap.size ≤ w1.heap.size := Nat.le_trans hvb B1.size
                   have g3' : w1.heap[V.heap.size]? = some (.cells #[.string ⟨k.name.toArray⟩] 9) := (hg1.block _ hl3 (fun h => absurd (Option.some.inj (show some V.heap.size = some (V.heap.size + 1) from h)) (Nat.ne_of_lt (Nat.lt_succ_self _)))).trans g3))
              all_goals
                have HBX := B9
                have JX : Hid (RV w w9 _ vs v9 ((a :: op) ++ [k.name])) := Lib.hid ⟨(JV.out.kept HBX.out).gro, O9.out⟩
                have HQX : Hid (w9.heap[w2.heap.size]? = some (.cells #[.int .i64 k.kind, .int .i64 k.fro, .int .i64 k.to_, .string ⟨k.name.toArray⟩, .string ⟨k.text.toArray⟩, .slice PA pn pc, .int .i64 k.r] 30)) := Lib.hid ((HBX.out.block _ (lt_of HQ.out)).trans HQ.out)
                have r0 := cell_of 0 HQX.out
                have r2 := cell_of 2 HQX.out
                have hba : w.heap.size ≤ w9.heap.size := JX.out.gro.base1
                have HA3 : Hid (R = overR l true f ((vs ++ [(⟨k, PA, pn, pc⟩ : TokV)]).map TokV.t) ((a :: op) ++ [k.name]) true u) := Lib.hid (by rw [HA2.out, if_neg (by rw [hleft]; simp), List.map_append]; rfl)
                have HPX : Hid (PRd w9 w9.heap.size PA pn pc k.pairs ∧ (0 < pc → ∀ b i, PA = some ⟨b, i, none⟩ → some b ≠ Value.ownBlock _)) := Lib.hid ⟨(HX.out.1.below HBX.out).more HBX.out.size, HX.out.2⟩
                have hxs : w2.heap.size < w9.heap.size := lt_of HQX.out
                clear hleft HA2
                go_wp2_with (first
                  | (refine wpList_load_row rfl _ _ rfl w2.heap.size rfl _ _ _ _ HQX.out HU.out.2 rfl HU.out.1 ?_)
                  | (at_builtin; refine wpList_appK rfl (.tmp 108) (.tmp 110) 39 30 rfl (.agg #[.int .i64 0, .int .i64 0, .int .i64 0, .string ⟨#[]⟩, .string ⟨#[]⟩, .slice none 0 0, .int .i64 0]) 7 88 Tryz.underlying39 info_rtok rfl (by decide) w.heap.size _ vs.length (cellsK vs) rfl JX.out.gro.own (TokV.cells ⟨k, PA, pn, pc⟩) _ rfl rfl rfl (cells_one _) hvl (by decide) hba ?_))
                intro v5 w5 hown5 hg5 hat5
                have J5 := Lib.hid (JX.out.appended (x := ⟨k, PA, pn, pc⟩) HPX.out.1 HPX.out.2 hown5 hg5 hat5)
                have x2' : w5.cell? ⟨w2.heap.size, 2, none⟩ = some (.int .i64 k.to_) := cell_of 2 ((hg5.block w2.heap.size (by simp; omega) (HF0.out)).trans ((Below.heap_alloc _ _ _ hxs).trans HQX.out))
                clear hown5 hg5 hat5 r0 r2
                go_wp2
                go_roundg (f - 1)
                case measure => have := hg.out; have := hgf.out; omega
                case rel => exact ⟨u, vs ++ [⟨k, PA, pn, pc⟩], f - 1, ((a :: op) ++ [k.name]), true, _, rfl, by rw [HUu.out], rfl, by omega, Lib.hid rfl, Lib.hid (by have := hg.out; omega), Lib.hid (by have := hal.out; simp; omega), Lib.hid (by have := hopl.out; simp at this ⊢; omega), Lib.hid (by rw [HA3.out, show f - 1 + 1 = f by have := hg.out; omega]), J5⟩
        · by_cases e8 : k.kind = 8
          · have k7 : (k.kind == 7) = false := by simp [e8]
            have k8 : (k.kind == 8) = true := by simp [e8]
            have n1 : (k.kind != 1) = true := by simp [e8]
            cases whole with
            | false =>
              clear hSN
              have hms : mayS false op root k = some (op, true) := by unfold mayS; rw [if_neg e7, if_pos e8]; simp
              have HA2 := Lib.hid (HMO.out op true hms)
              clear hms HMO HNO e7 e8
              have HBX := Lib.hid (Below.refl V.heap.size V)
              have hleft : leftOut false op k = false := by simp [leftOut, (by simpa using n1 : k.kind ≠ 1)]
              have hba : w.heap.size ≤ V.heap.size := JV.out.gro.base1
              have HA3 : Hid (R = overR l false f ((vs ++ [(⟨k, PA, pn, pc⟩ : TokV)]).map TokV.t) op true u) := Lib.hid (by rw [HA2.out, if_neg (by rw [hleft]; simp), List.map_append]; rfl)
              have HPX : Hid (PRd V V.heap.size PA pn pc k.pairs ∧ (0 < pc → ∀ b i, PA = some ⟨b, i, none⟩ → some b ≠ Value.ownBlock _)) := Lib.hid ⟨(HX.out.1.below HBX.out).more HBX.out.size, HX.out.2⟩
              have hxs : w2.heap.size < V.heap.size := lt_of HQ.out
              clear hleft HA2
              go_wp2_with (first
                | (refine wpList_load_row rfl _ _ rfl w2.heap.size rfl _ _ _ _ HQ.out HU.out.2 rfl HU.out.1 ?_)
                | (at_builtin; refine wpList_appK rfl (.tmp 108) (.tmp 110) 39 30 rfl (.agg #[.int .i64 0, .int .i64 0, .int .i64 0, .string ⟨#[]⟩, .string ⟨#[]⟩, .slice none 0 0, .int .i64 0]) 7 88 Tryz.underlying39 info_rtok rfl (by decide) w.heap.size _ vs.length (cellsK vs) rfl JV.out.gro.own (TokV.cells ⟨k, PA, pn, pc⟩) _ rfl rfl rfl (cells_one _) hvl (by decide) hba ?_))
              intro v5 w5 hown5 hg5 hat5
              have J5 := Lib.hid (JV.out.appended (x := ⟨k, PA, pn, pc⟩) HPX.out.1 HPX.out.2 hown5 hg5 hat5)
              have x2' : w5.cell? ⟨w2.heap.size, 2, none⟩ = some (.int .i64 k.to_) := cell_of 2 ((hg5.block w2.heap.size (by simp; omega) (HF0.out)).trans ((Below.heap_alloc _ _ _ hxs).trans HQ.out))
              clear hown5 hg5 hat5 x0 x2 x3 x4
              go_wp2
              go_roundg (f - 1)
              case measure => have := hg.out; have := hgf.out; omega
              case rel => exact ⟨u, vs ++ [⟨k, PA, pn, pc⟩], f - 1, op, true, _, rfl, by rw [HUu.out], rfl, by omega, Lib.hid rfl, Lib.hid (by have := hg.out; omega), Lib.hid (by have := hal.out; simp; omega), Lib.hid (by have := hopl.out; omega), Lib.hid (by rw [HA3.out, show f - 1 + 1 = f by have := hg.out; omega]), J5⟩
            | true =>
              cases op with
              | nil =>
                have hs0 : SN = 0 := by simpa using hSN
                clear hSN
                subst hs0
                cases root with
                | false =>
                  have hms : mayS true [] false k = some ([], true) := by unfold mayS; rw [if_neg e7, if_pos e8]; simp
                  have HA2 := Lib.hid (HMO.out [] true hms)
                  clear hms HMO HNO e7 e8
                  have HBX := Lib.hid (Below.refl V.heap.size V)
                  have hleft : leftOut true [] k = false := by simp [leftOut, (by simpa using n1 : k.kind ≠ 1)]
                  have hba : w.heap.size ≤ V.heap.size := JV.out.gro.base1
                  have HA3 : Hid (R = overR l true f ((vs ++ [(⟨k, PA, pn, pc⟩ : TokV)]).map TokV.t) [] true u) := Lib.hid (by rw [HA2.out, if_neg (by rw [hleft]; simp), List.map_append]; rfl)
                  have HPX : Hid (PRd V V.heap.size PA pn pc k.pairs ∧ (0 < pc → ∀ b i, PA = some ⟨b, i, none⟩ → some b ≠ Value.ownBlock _)) := Lib.hid ⟨(HX.out.1.below HBX.out).more HBX.out.size, HX.out.2⟩
                  have hxs : w2.heap.size < V.heap.size := lt_of HQ.out
                  clear hleft HA2
                  go_wp2_with (first
                    | (refine wpList_load_row rfl _ _ rfl w2.heap.size rfl _ _ _ _ HQ.out HU.out.2 rfl HU.out.1 ?_)
                    | (at_builtin; refine wpList_appK rfl (.tmp 108) (.tmp 110) 39 30 rfl (.agg #[.int .i64 0, .int .i64 0, .int .i64 0, .string ⟨#[]⟩, .string ⟨#[]⟩, .slice none 0 0, .int .i64 0]) 7 88 Tryz.underlying39 info_rtok rfl (by decide) w.heap.size _ vs.length (cellsK vs) rfl JV.out.gro.own (TokV.cells ⟨k, PA, pn, pc⟩) _ rfl rfl rfl (cells_one _) hvl (by decide) hba ?_))
                  intro v5 w5 hown5 hg5 hat5
                  have J5 := Lib.hid (JV.out.appended (x := ⟨k, PA, pn, pc⟩) HPX.out.1 HPX.out.2 hown5 hg5 hat5)
                  have x2' : w5.cell? ⟨w2.heap.size, 2, none⟩ = some (.int .i64 k.to_) := cell_of 2 ((hg5.block w2.heap.size (by simp; omega) (HF0.out)).trans ((Below.heap_alloc _ _ _ hxs).trans HQ.out))
                  clear hown5 hg5 hat5 x0 x2 x3 x4
                  go_wp2
                  go_roundg (f - 1)
                  case measure => have := hg.out; have := hgf.out; omega
                  case rel => exact ⟨u, vs ++ [⟨k, PA, pn, pc⟩], f - 1, [], true, _, rfl, by rw [HUu.out], rfl, by omega, Lib.hid rfl, Lib.hid (by have := hg.out; omega), Lib.hid (by have := hal.out; simp; omega), Lib.hid (Nat.zero_le _), Lib.hid (by rw [HA3.out, show f - 1 + 1 = f by have := hg.out; omega]), J5⟩
                | true =>
                  have hms : mayS true [] true k = none := by unfold mayS; rw [if_neg e7, if_pos e8]; simp
                  have HA2 := Lib.hid (HNO.out hms)
                  clear hms HMO HNO e7 e8
                  go_wp2
                  go_ret3
                  rw [HA2.out]
                  exact AllPost.bad rfl BV.out
              | cons a op =>
                have hsn : ((SN : Int) == 0) = false := by rw [hSN, List.length_cons]; simp; omega
                clear hSN
                have hms : mayS true (a :: op) root k = some ((a :: op), true) := by unfold mayS; rw [if_neg e7, if_pos e8]; simp
                have HA2 := Lib.hid (HMO.out (a :: op) true hms)
                clear hms HMO HNO e7 e8
                have HBX := Lib.hid (Below.refl V.heap.size V)
                have hleft : leftOut true (a :: op) k = false := by simp [leftOut, (by simpa using n1 : k.kind ≠ 1)]
                have hba : w.heap.size ≤ V.heap.size := JV.out.gro.base1
                have HA3 : Hid (R = overR l true f ((vs ++ [(⟨k, PA, pn, pc⟩ : TokV)]).map TokV.t) (a :: op) true u) := Lib.hid (by rw [HA2.out, if_neg (by rw [hleft]; simp), List.map_append]; rfl)
                have HPX : Hid (PRd V V.heap.size PA pn pc k.pairs ∧ (0 < pc → ∀ b i, PA = some ⟨b, i, none⟩ → some b ≠ Value.ownBlock _)) := Lib.hid ⟨(HX.out.1.below HBX.out).more HBX.out.size, HX.out.2⟩
                have hxs : w2.heap.size < V.heap.size := lt_of HQ.out
                clear hleft HA2
                go_wp2_with (first
                  | (refine wpList_load_row rfl _ _ rfl w2.heap.size rfl _ _ _ _ HQ.out HU.out.2 rfl HU.out.1 ?_)
                  | (at_builtin; refine wpList_appK rfl (.tmp 108) (.tmp 110) 39 30 rfl (.agg #[.int .i64 0, .int .i64 0, .int .i64 0, .string ⟨#[]⟩, .string ⟨#[]⟩, .slice none 0 0, .int .i64 0]) 7 88 Tryz.underlying39 info_rtok rfl (by decide) w.heap.size _ vs.length (cellsK vs) rfl JV.out.gro.own (TokV.cells ⟨k, PA, pn, pc⟩) _ rfl rfl rfl (cells_one _) hvl (by decide) hba ?_))
                intro v5 w5 hown5 hg5 hat5
                have J5 := Lib.hid (JV.out.appended (x := ⟨k, PA, pn, pc⟩) HPX.out.1 HPX.out.2 hown5 hg5 hat5)
                have x2' : w5.cell? ⟨w2.heap.size, 2, none⟩ = some (.int .i64 k.to_) := cell_of 2 ((hg5.block w2.heap.size (by simp; omega) (HF0.out)).trans ((Below.heap_alloc _ _ _ hxs).trans HQ.out))
                clear hown5 hg5 hat5 x0 x2 x3 x4
                go_wp2
                go_roundg (f - 1)
                case measure => have := hg.out; have := hgf.out; omega
                case rel => exact ⟨u, vs ++ [⟨k, PA, pn, pc⟩], f - 1, (a :: op), true, _, rfl, by rw [HUu.out], rfl, by omega, Lib.hid rfl, Lib.hid (by have := hg.out; omega), Lib.hid (by have := hal.out; simp; omega), Lib.hid (by have := hopl.out; omega), Lib.hid (by rw [HA3.out, show f - 1 + 1 = f by have := hg.out; omega]), J5⟩
          · by_cases e9 : k.kind = 9
            · have k7 : (k.kind == 7) = false := by simp [e9]
              have k8 : (k.kind == 8) = false := by simp [e9]
              have k9 : (k.kind == 9) = true := by simp [e9]
              have n1 : (k.kind != 1) = true := by simp [e9]
              cases whole with
              | false =>
                by_cases hop0 : op = []
                · subst hop0
                  have hs0 : SN = 0 := by simpa using hSN
                  clear hSN
                  subst hs0
                  have hl : ¬ ([] : List (List UInt8)).getLast? = some k.name := by simp
                  have hms : mayS false [] root k = none := by unfold mayS; rw [if_neg e7, if_neg e8, if_pos e9, if_neg hl]
                  have HA2 := Lib.hid (HNO.out hms)
                  clear hms HMO HNO e7 e8 e9 hl
                  go_wp2_with fail
                  go_quiet (fail)
                  have BVq := Lib.hid (below_drewN' (n := nq) BV.out)
                  clear x0 x2 x3 x4
                  generalize V.drewN nq = Vq at *
                  go_wp2
                  go_ret3
                  rw [HA2.out]
                  exact AllPost.bad rfl BVq.out
                · clear hSN
                  obtain ⟨op2, s2, hop2⟩ : ∃ op2 s2, op = op2 ++ [s2] := by
                    rcases List.eq_nil_or_concat (op) with h | ⟨o2, s2, h⟩
                    · exact absurd h hop0
                    · exact ⟨o2, s2, by rw [h, List.concat_eq_append]⟩
                  have hown := JV.out.own
                  rw [hop2] at hown
                  obtain ⟨g5, c5, hsl, hc5, hg5, hgl5, hz5, ho5⟩ := hown.last
                  injection hsl with hsl1 hsl2 hsl3
                  subst hsl1 hsl2 hsl3
                  have HO5 := Lib.hid ho5
                  have HL2 := Lib.hid (show op2.length ≤ t + 1 by have := hopl.out; rw [hop2, List.length_append] at this; omega)
                  have l0 : (0 : Int) ≤ (op2.length : Int) := by omega
                  have l1 : (op2.length : Int) < (op2.length : Int) + 1 := by omega
                  have l3 : ((op2.length : Int) + 1 == 0) = false := by simp; omega
                  have l9 : (op2.length : Int) ≤ 1000000 := by have := HL2.out; omega
                  have l2 : IntKind.i64.wrap (op2.length : Int) = (op2.length : Int) := by rw [IntKind.wrap_i64]; omega
                  have hcut := fun W => run_cutS (w := W) (some ⟨g5, 0, none⟩) (op2.length + 1) SC op2.length (by omega)
                  unfold strV at hz5
                  have HSNC := trivial
                  by_cases hs : s2 = k.name
                  · have hms : mayS false (op) root k = some (op2, root) := by rw [hop2, hs]; unfold mayS; rw [if_neg e7, if_neg e8, if_pos e9, if_pos (by simp)]; simp
                    have HA2 := Lib.hid (HMO.out op2 root hms)
                    have hbn : (s2 == k.name) = true := by simpa using hs
                    have hleft : leftOut false op k = false := by simp [leftOut, (by simpa using n1 : k.kind ≠ 1)]
                    clear hms HMO HNO e7 e8 e9 hs hown ho5 hop2 HSNC
                    generalize hm5 : op2.length = m5 at *
                    have HM5 := Lib.hid hm5
                    clear hm5
                    go_wp2_with fail
                    go_quiet (fail)
                    have BVq := Lib.hid (below_drewN' (n := nq) BV.out)
                    have HBX : Hid (Below V.heap.size V (V.drewN nq)) := Lib.hid (below_drewN' (n := nq) (Below.refl _ _))
                    have JX : Hid (RV w (V.drewN nq) _ vs (.slice (some ⟨g5, 0, none⟩) m5 SC) op2) := Lib.hid ⟨(JV.out.kept HBX.out).gro, HO5.out⟩
                    have HQX : Hid ((V.drewN nq).heap[w2.heap.size]? = some (.cells #[.int .i64 k.kind, .int .i64 k.fro, .int .i64 k.to_, .string ⟨k.name.toArray⟩, .string ⟨k.text.toArray⟩, .slice PA pn pc, .int .i64 k.r] 30)) := Lib.hid HQ.out
                    have r0 := cell_of 0 HQX.out
                    have r2 := cell_of 2 HQX.out
                    clear x0 x2 x3 x4 hz5
                    generalize V.drewN nq = Vq at *
                    have hba : w.heap.size ≤ Vq.heap.size := JX.out.gro.base1
                    have HA3 : Hid (R = overR l false f ((vs ++ [(⟨k, PA, pn, pc⟩ : TokV)]).map TokV.t) op2 root u) := Lib.hid (by rw [HA2.out, if_neg (by rw [hleft]; simp), List.map_append]; rfl)
                    have HPX : Hid (PRd Vq Vq.heap.size PA pn pc k.pairs ∧ (0 < pc → ∀ b i, PA = some ⟨b, i, none⟩ → some b ≠ Value.ownBlock _)) := Lib.hid ⟨(HX.out.1.below HBX.out).more HBX.out.size, HX.out.2⟩
                    have hxs : w2.heap.size < Vq.heap.size := lt_of HQX.out
                    clear hleft HA2
                    go_wp2_with (first
                      | (refine wpList_load_row rfl _ _ rfl w2.heap.size rfl _ _ _ _ HQX.out HU.out.2 rfl HU.out.1 ?_)
                      | (at_builtin; refine wpList_appK rfl (.tmp 108) (.tmp 110) 39 30 rfl (.agg #[.int .i64 0, .int .i64 0, .int .i64 0, .string ⟨#[]⟩, .string ⟨#[]⟩, .slice none 0 0, .int .i64 0]) 7 88 Tryz.underlying39 info_rtok rfl (by decide) w.heap.size _ vs.length (cellsK vs) rfl JX.out.gro.own (TokV.cells ⟨k, PA, pn, pc⟩) _ rfl rfl rfl (cells_one _) hvl (by decide) hba ?_))
                    intro v5 w5 hown5 hg5 hat5
                    have J5 := Lib.hid (JX.out.appended (x := ⟨k, PA, pn, pc⟩) HPX.out.1 HPX.out.2 hown5 hg5 hat5)
                    have x2' : w5.cell? ⟨w2.heap.size, 2, none⟩ = some (.int .i64 k.to_) := cell_of 2 ((hg5.block w2.heap.size (by simp; omega) (HF0.out)).trans ((Below.heap_alloc _ _ _ hxs).trans HQX.out))
                    clear hown5 hg5 hat5 r0 r2
                    go_wp2
                    go_roundg (f - 1)
                    case measure => have := hg.out; have := hgf.out; omega
                    case rel => exact ⟨u, vs ++ [⟨k, PA, pn, pc⟩], f - 1, op2, root, _, rfl, by rw [HUu.out], rfl, by omega, Lib.hid rfl, Lib.hid (by have := hg.out; omega), Lib.hid (by have := hal.out; simp; omega), Lib.hid (by have := HL2.out; have := HM5.out; omega), Lib.hid (by rw [HA3.out, show f - 1 + 1 = f by have := hg.out; omega]), J5⟩
                  · have hl : ¬ (op).getLast? = some k.name := by rw [hop2]; simpa using hs
                    have hms : mayS false op root k = none := by unfold mayS; rw [if_neg e7, if_neg e8, if_pos e9, if_neg hl]
                    have HA2 := Lib.hid (HNO.out hms)
                    have hbn : (s2 == k.name) = false := by simpa using hs
                    clear hms HMO HNO e7 e8 e9 hl hs hown ho5 hop2 HSNC
                    generalize op2.length = m5 at *
                    go_wp2_with fail
                    go_quiet (fail)
                    have BVq := Lib.hid (below_drewN' (n := nq) BV.out)
                    clear x0 x2 x3 x4 hz5
                    generalize V.drewN nq = Vq at *
                    go_wp2
                    go_ret3
                    rw [HA2.out]
                    exact AllPost.bad rfl BVq.out
              | true =>
                cases op with
                | nil =>
                  have hs0 : SN = 0 := by simpa using hSN
                  clear hSN
                  subst hs0
                  have hl : ¬ ([] : List (List UInt8)).getLast? = some k.name := by simp
                  have hms : mayS true [] root k = none := by unfold mayS; rw [if_neg e7, if_neg e8, if_pos e9, if_neg hl]
                  have HA2 := Lib.hid (HNO.out hms)
                  clear hms HMO HNO e7 e8 e9 hl
                  go_wp2_with fail
                  go_quiet (fail)
                  have BVq := Lib.hid (below_drewN' (n := nq) BV.out)
                  clear x0 x2 x3 x4
                  generalize V.drewN nq = Vq at *
                  go_wp2
                  go_ret3
                  rw [HA2.out]
                  exact AllPost.bad rfl BVq.out
                | cons a op =>
                  have hsn : ((SN : Int) == 0) = false := by rw [hSN, List.length_cons]; simp; omega
                  clear hSN
                  obtain ⟨op2, s2, hop2⟩ : ∃ op2 s2, (a :: op) = op2 ++ [s2] := by
                    rcases List.eq_nil_or_concat ((a :: op)) with h | ⟨o2, s2, h⟩
                    · cases h
                    · exact ⟨o2, s2, by rw [h, List.concat_eq_append]⟩
                  have hown := JV.out.own
                  rw [hop2] at hown
                  obtain ⟨g5, c5, hsl, hc5, hg5, hgl5, hz5, ho5⟩ := hown.last
                  injection hsl with hsl1 hsl2 hsl3
                  subst hsl1 hsl2 hsl3
                  have HO5 := Lib.hid ho5
                  have HL2 := Lib.hid (show op2.length ≤ t + 1 by have := hopl.out; rw [hop2, List.length_append] at this; omega)
                  have l0 : (0 : Int) ≤ (op2.length : Int) := by omega
                  have l1 : (op2.length : Int) < (op2.length : Int) + 1 := by omega
                  have l3 : ((op2.length : Int) + 1 == 0) = false := by simp; omega
                  have l9 : (op2.length : Int) ≤ 1000000 := by have := HL2.out; omega
                  have l2 : IntKind.i64.wrap (op2.length : Int) = (op2.length : Int) := by rw [IntKind.wrap_i64]; omega
                  have hcut := fun W => run_cutS (w := W) (some ⟨g5, 0, none⟩) (op2.length + 1) SC op2.length (by omega)
                  unfold strV at hz5
                  clear hsn
                  have HSNC := trivial
                  by_cases hs : s2 = k.name
                  · have hms : mayS true ((a :: op)) root k = some (op2, root) := by rw [hop2, hs]; unfold mayS; rw [if_neg e7, if_neg e8, if_pos e9, if_pos (by simp)]; simp
                    have HA2 := Lib.hid (HMO.out op2 root hms)
                    have hbn : (s2 == k.name) = true := by simpa using hs
                    have hleft : leftOut true (a :: op) k = false := by simp [leftOut, (by simpa using n1 : k.kind ≠ 1)]
                    clear hms HMO HNO e7 e8 e9 hs hown ho5 hop2 HSNC
                    generalize hm5 : op2.length = m5 at *
                    have HM5 := Lib.hid hm5
                    clear hm5
                    go_wp2_with fail
                    go_quiet (fail)
                    have BVq := Lib.hid (below_drewN' (n := nq) BV.out)
                    have HBX : Hid (Below V.heap.size V (V.drewN nq)) := Lib.hid (below_drewN' (n := nq) (Below.refl _ _))
                    have JX : Hid (RV w (V.drewN nq) _ vs (.slice (some ⟨g5, 0, none⟩) m5 SC) op2) := Lib.hid ⟨(JV.out.kept HBX.out).gro, HO5.out⟩
                    have HQX : Hid ((V.drewN nq).heap[w2.heap.size]? = some (.cells #[.int .i64 k.kind, .int .i64 k.fro, .int .i64 k.to_, .string ⟨k.name.toArray⟩, .string ⟨k.text.toArray⟩, .slice PA pn pc, .int .i64 k.r] 30)) := Lib.hid HQ.out
                    have r0 := cell_of 0 HQX.out
                    have r2 := cell_of 2 HQX.out
                    clear x0 x2 x3 x4 hz5
                    generalize V.drewN nq = Vq at *
                    have hba : w.heap.size ≤ Vq.heap.size := JX.out.gro.base1
                    have HA3 : Hid (R = overR l true f ((vs ++ [(⟨k, PA, pn, pc⟩ : TokV)]).map TokV.t) op2 root u) := Lib.hid (by rw [HA2.out, if_neg (by rw [hleft]; simp), List.map_append]; rfl)
                    have HPX : Hid (PRd Vq Vq.heap.size PA pn pc k.pairs ∧ (0 < pc → ∀ b i, PA = some ⟨b, i, none⟩ → some b ≠ Value.ownBlock _)) := Lib.hid ⟨(HX.out.1.below HBX.out).more HBX.out.size, HX.out.2⟩
                    have hxs : w2.heap.size < Vq.heap.size := lt_of HQX.out
                    clear hleft HA2
                    go_wp2_with (first
                      | (refine wpList_load_row rfl _ _ rfl w2.heap.size rfl _ _ _ _ HQX.out HU.out.2 rfl HU.out.1 ?_)
                      | (at_builtin; refine wpList_appK rfl (.tmp 108) (.tmp 110) 39 30 rfl (.agg #[.int .i64 0, .int .i64 0, .int .i64 0, .string ⟨#[]⟩, .string ⟨#[]⟩, .slice none 0 0, .int .i64 0]) 7 88 Tryz.underlying39 info_rtok rfl (by decide) w.heap.size _ vs.length (cellsK vs) rfl JX.out.gro.own (TokV.cells ⟨k, PA, pn, pc⟩) _ rfl rfl rfl (cells_one _) hvl (by decide) hba ?_))
                    intro v5 w5 hown5 hg5 hat5
                    have J5 := Lib.hid (JX.out.appended (x := ⟨k, PA, pn, pc⟩) HPX.out.1 HPX.out.2 hown5 hg5 hat5)
                    have x2' : w5.cell? ⟨w2.heap.size, 2, none⟩ = some (.int .i64 k.to_) := cell_of 2 ((hg5.block w2.heap.size (by simp; omega) (HF0.out)).trans ((Below.heap_alloc _ _ _ hxs).trans HQX.out))
                    clear hown5 hg5 hat5 r0 r2
                    go_wp2
                    go_roundg (f - 1)
                    case measure => have := hg.out; have := hgf.out; omega
                    case rel => exact ⟨u, vs ++ [⟨k, PA, pn, pc⟩], f - 1, op2, root, _, rfl, by rw [HUu.out], rfl, by omega, Lib.hid rfl, Lib.hid (by have := hg.out; omega), Lib.hid (by have := hal.out; simp; omega), Lib.hid (by have := HL2.out; have := HM5.out; omega), Lib.hid (by rw [HA3.out, show f - 1 + 1 = f by have := hg.out; omega]), J5⟩
                  · have hl : ¬ ((a :: op)).getLast? = some k.name := by rw [hop2]; simpa using hs
                    have hms : mayS true (a :: op) root k = none := by unfold mayS; rw [if_neg e7, if_neg e8, if_pos e9, if_neg hl]
                    have HA2 := Lib.hid (HNO.out hms)
                    have hbn : (s2 == k.name) = false := by simpa using hs
                    clear hms HMO HNO e7 e8 e9 hl hs hown ho5 hop2 HSNC
                    generalize op2.length = m5 at *
                    go_wp2_with fail
                    go_quiet (fail)
                    have BVq := Lib.hid (below_drewN' (n := nq) BV.out)
                    clear x0 x2 x3 x4 hz5
                    generalize V.drewN nq = Vq at *
                    go_wp2
                    go_ret3
                    rw [HA2.out]
                    exact AllPost.bad rfl BVq.out
            · by_cases e1 : k.kind = 1
              · have k7 : (k.kind == 7) = false := by simp [e1]
                have k8 : (k.kind == 8) = false := by simp [e1]
                have k9 : (k.kind == 9) = false := by simp [e1]
                have k1 : (k.kind == 1) = true := by simp [e1]
                have n1 : (k.kind != 1) = false := by simp [e1]
                cases whole with
                | false =>
                  clear hSN
                  have hms : mayS false op root k = some (op, root) := by unfold mayS; rw [if_neg e7, if_neg e8, if_neg e9, if_pos e1]; rfl
                  have HA2 := Lib.hid (HMO.out op root hms)
                  clear hms HMO HNO e7 e8 e9 e1
                  have HBX := Lib.hid (Below.refl V.heap.size V)
                  have hleft : leftOut false op k = false := by simp [leftOut]
                  have hba : w.heap.size ≤ V.heap.size := JV.out.gro.base1
                  have HA3 : Hid (R = overR l false f ((vs ++ [(⟨k, PA, pn, pc⟩ : TokV)]).map TokV.t) op root u) := Lib.hid (by rw [HA2.out, if_neg (by rw [hleft]; simp), List.map_append]; rfl)
                  have HPX : Hid (PRd V V.heap.size PA pn pc k.pairs ∧ (0 < pc → ∀ b i, PA = some ⟨b, i, none⟩ → some b ≠ Value.ownBlock _)) := Lib.hid ⟨(HX.out.1.below HBX.out).more HBX.out.size, HX.out.2⟩
                  have hxs : w2.heap.size < V.heap.size := lt_of HQ.out
                  clear hleft HA2
                  go_wp2_with (first
                    | (refine wpList_load_row rfl _ _ rfl w2.heap.size rfl _ _ _ _ HQ.out HU.out.2 rfl HU.out.1 ?_)
                    | (at_builtin; refine wpList_appK rfl (.tmp 108) (.tmp 110) 39 30 rfl (.agg #[.int .i64 0, .int .i64 0, .int .i64 0, .string ⟨#[]⟩, .string ⟨#[]⟩, .slice none 0 0, .int .i64 0]) 7 88 Tryz.underlying39 info_rtok rfl (by decide) w.heap.size _ vs.length (cellsK vs) rfl JV.out.gro.own (TokV.cells ⟨k, PA, pn, pc⟩) _ rfl rfl rfl (cells_one _) hvl (by decide) hba ?_))
                  intro v5 w5 hown5 hg5 hat5
                  have J5 := Lib.hid (JV.out.appended (x := ⟨k, PA, pn, pc⟩) HPX.out.1 HPX.out.2 hown5 hg5 hat5)
                  have x2' : w5.cell? ⟨w2.heap.size, 2, none⟩ = some (.int .i64 k.to_) := cell_of 2 ((hg5.block w2.heap.size (by simp; omega) (HF0.out)).trans ((Below.heap_alloc _ _ _ hxs).trans HQ.out))
                  clear hown5 hg5 hat5 x0 x2 x3 x4
                  go_wp2
                  go_roundg (f - 1)
                  case measure => have := hg.out; have := hgf.out; omega
                  case rel => exact ⟨u, vs ++ [⟨k, PA, pn, pc⟩], f - 1, op, root, _, rfl, by rw [HUu.out], rfl, by omega, Lib.hid rfl, Lib.hid (by have := hg.out; omega), Lib.hid (by have := hal.out; simp; omega), Lib.hid (by have := hopl.out; omega), Lib.hid (by rw [HA3.out, show f - 1 + 1 = f by have := hg.out; omega]), J5⟩
                | true =>
                  cases op with
                  | nil =>
                    have hs0 : SN = 0 := by simpa using hSN
                    clear hSN
                    subst hs0
                    have CB := Lib.hid (blankR_c k.text V (HTX.out e1))
                    have hleft : leftOut true [] k = true := by simp [leftOut, e1]
                    cases hb : blankB k.text with
                    | false =>
                      have hms : mayS true [] root k = none := by unfold mayS; rw [if_neg e7, if_neg e8, if_neg e9, if_pos e1]; simp [hb]
                      have HA2 := Lib.hid (HNO.out hms)
                      rw [hb] at CB
                      clear hms HMO HNO e7 e8 e9 e1 hb hleft
                      go_wp2_with fail
                      refine CB.out.mono ?_
                      rintro e0 w4 ⟨rfl, hb4⟩
                      have B4 := Lib.hid (BV.out.trans (hb4.mono BV.out.size))
                      clear hb4
                      go_wp2
                      go_ret3
                      rw [HA2.out]
                      exact AllPost.bad rfl B4.out
                    | true =>
                      have hms : mayS true [] root k = some ([], root) := by unfold mayS; rw [if_neg e7, if_neg e8, if_neg e9, if_pos e1]; simp [hb]
                      have HA2 := Lib.hid (HMO.out [] root hms)
                      have HA3 : Hid (R = overR l true f (vs.map TokV.t) [] root u) := Lib.hid (by rw [HA2.out, if_pos hleft])
                      rw [hb] at CB
                      clear hms HMO HNO e7 e8 e9 e1 hb hleft HA2
                      go_wp2_with fail
                      refine CB.out.mono ?_
                      rintro e0 w4 ⟨rfl, hb4⟩
                      have J4 := Lib.hid (JV.out.kept hb4)
                      have hq4 := (hb4.block _ (lt_of HQ.out)).trans HQ.out
                      have r0 := cell_of 0 hq4
                      have r2 := cell_of 2 hq4
                      clear hb4 hq4 x0 x2 x3 x4
                      go_wp2
                      go_roundg (f - 1)
                      case measure => have := hg.out; have := hgf.out; omega
                      case rel => exact ⟨u, vs, f - 1, [], root, _, rfl, by rw [HUu.out], rfl, by omega, Lib.hid rfl, Lib.hid (by have := hg.out; omega), Lib.hid (by have := hal.out; omega), Lib.hid (Nat.zero_le _), Lib.hid (by rw [HA3.out, show f - 1 + 1 = f by have := hg.out; omega]), J4⟩
                  | cons a op =>
                    have hsn : ((SN : Int) == 0) = false := by rw [hSN, List.length_cons]; simp; omega
                    clear hSN
                    have hms : mayS true (a :: op) root k = some ((a :: op), root) := by unfold mayS; rw [if_neg e7, if_neg e8, if_neg e9, if_pos e1]; rfl
                    have HA2 := Lib.hid (HMO.out (a :: op) root hms)
                    clear hms HMO HNO e7 e8 e9 e1
                    have HBX := Lib.hid (Below.refl V.heap.size V)
                    have hleft : leftOut true (a :: op) k = false := by simp [leftOut]
                    have hba : w.heap.size ≤ V.heap.size := JV.out.gro.base1
                    have HA3 : Hid (R = overR l true f ((vs ++ [(⟨k, PA, pn, pc⟩ : TokV)]).map TokV.t) (a :: op) root u) := Lib.hid (by rw [HA2.out, if_neg (by rw [hleft]; simp), List.map_append]; rfl)
                    have HPX : Hid (PRd V V.heap.size PA pn pc k.pairs ∧ (0 < pc → ∀ b i, PA = some ⟨b, i, none⟩ → some b ≠ Value.ownBlock _)) := Lib.hid ⟨(HX.out.1.below HBX.out).more HBX.out.size, HX.out.2⟩
                    have hxs : w2.heap.size < V.heap.size := lt_of HQ.out
                    clear hleft HA2
                    go_wp2_with (first
                      | (refine wpList_load_row rfl _ _ rfl w2.heap.size rfl _ _ _ _ HQ.out HU.out.2 rfl HU.out.1 ?_)
                      | (at_builtin; refine wpList_appK rfl (.tmp 108) (.tmp 110) 39 30 rfl (.agg #[.int .i64 0, .int .i64 0, .int .i64 0, .string ⟨#[]⟩, .string ⟨#[]⟩, .slice none 0 0, .int .i64 0]) 7 88 Tryz.underlying39 info_rtok rfl (by decide) w.heap.size _ vs.length (cellsK vs) rfl JV.out.gro.own (TokV.cells ⟨k, PA, pn, pc⟩) _ rfl rfl rfl (cells_one _) hvl (by decide) hba ?_))
                    intro v5 w5 hown5 hg5 hat5
                    have J5 := Lib.hid (JV.out.appended (x := ⟨k, PA, pn, pc⟩) HPX.out.1 HPX.out.2 hown5 hg5 hat5)
                    have x2' : w5.cell? ⟨w2.heap.size, 2, none⟩ = some (.int .i64 k.to_) := cell_of 2 ((hg5.block w2.heap.size (by simp; omega) (HF0.out)).trans ((Below.heap_alloc _ _ _ hxs).trans HQ.out))
                    clear hown5 hg5 hat5 x0 x2 x3 x4
                    go_wp2
                    go_roundg (f - 1)
                    case measure => have := hg.out; have := hgf.out; omega
                    case rel => exact ⟨u, vs ++ [⟨k, PA, pn, pc⟩], f - 1, (a :: op), root, _, rfl, by rw [HUu.out], rfl, by omega, Lib.hid rfl, Lib.hid (by have := hg.out; omega), Lib.hid (by have := hal.out; simp; omega), Lib.hid (by have := hopl.out; omega), Lib.hid (by rw [HA3.out, show f - 1 + 1 = f by have := hg.out; omega]), J5⟩
              · by_cases e234 : k.kind = 2 ∨ k.kind = 3 ∨ k.kind = 4
                · have k7 : (k.kind == 7) = false := by simp [e7]
                  have k8 : (k.kind == 8) = false := by simp [e8]
                  have k9 : (k.kind == 9) = false := by simp [e9]
                  have k1 : (k.kind == 1) = false := by simp [e1]
                  have n1 : (k.kind != 1) = true := by simp [e1]
                  cases whole with
                  | false =>
                    clear hSN
                    have hms : mayS false op root k = some (op, root) := by unfold mayS; rw [if_neg e7, if_neg e8, if_neg e9, if_neg e1, if_pos e234]; rfl
                    have HA2 := Lib.hid (HMO.out op root hms)
                    clear hms HMO HNO e7 e8 e9 e1
                    have HBX := Lib.hid (Below.refl V.heap.size V)
                    have hleft : leftOut false op k = false := by simp [leftOut, (by simpa using n1 : k.kind ≠ 1)]
                    rcases e234 with e2 | e3 | e4
                    · have k2 : (k.kind == 2) = true := by simp [e2]
                      clear e2
                      have hba : w.heap.size ≤ V.heap.size := JV.out.gro.base1
                      have HA3 : Hid (R = overR l false f ((vs ++ [(⟨k, PA, pn, pc⟩ : TokV)]).map TokV.t) op root u) := Lib.hid (by rw [HA2.out, if_neg (by rw [hleft]; simp), List.map_append]; rfl)
                      have HPX : Hid (PRd V V.heap.size PA pn pc k.pairs ∧ (0 < pc → ∀ b i, PA = some ⟨b, i, none⟩ → some b ≠ Value.ownBlock _)) := Lib.hid ⟨(HX.out.1.below HBX.out).more HBX.out.size, HX.out.2⟩
                      have hxs : w2.heap.size < V.heap.size := lt_of HQ.out
                      clear hleft HA2
                      go_wp2_with (first
                        | (refine wpList_load_row rfl _ _ rfl w2.heap.size rfl _ _ _ _ HQ.out HU.out.2 rfl HU.out.1 ?_)
                        | (at_builtin; refine wpList_appK rfl (.tmp 108) (.tmp 110) 39 30 rfl (.agg #[.int .i64 0, .int .i64 0, .int .i64 0, .string ⟨#[]⟩, .string ⟨#[]⟩, .slice none 0 0, .int .i64 0]) 7 88 Tryz.underlying39 info_rtok rfl (by decide) w.heap.size _ vs.length (cellsK vs) rfl JV.out.gro.own (TokV.cells ⟨k, PA, pn, pc⟩) _ rfl rfl rfl (cells_one _) hvl (by decide) hba ?_))
                      intro v5 w5 hown5 hg5 hat5
                      have J5 := Lib.hid (JV.out.appended (x := ⟨k, PA, pn, pc⟩) HPX.out.1 HPX.out.2 hown5 hg5 hat5)
                      have x2' : w5.cell? ⟨w2.heap.size, 2, none⟩ = some (.int .i64 k.to_) := cell_of 2 ((hg5.block w2.heap.size (by simp; omega) (HF0.out)).trans ((Below.heap_alloc _ _ _ hxs).trans HQ.out))
                      clear hown5 hg5 hat5 x0 x2 x3 x4
                      go_wp2
                      go_roundg (f - 1)
                      case measure => have := hg.out; have := hgf.out; omega
                      case rel => exact ⟨u, vs ++ [⟨k, PA, pn, pc⟩], f - 1, op, root, _, rfl, by rw [HUu.out], rfl, by omega, Lib.hid rfl, Lib.hid (by have := hg.out; omega), Lib.hid (by have := hal.out; simp; omega), Lib.hid (by have := hopl.out; omega), Lib.hid (by rw [HA3.out, show f - 1 + 1 = f by have := hg.out; omega]), J5⟩
                    · have k2 : (k.kind == 2) = false := by simp [e3]
                      have k3 : (k.kind == 3) = true := by simp [e3]
                      clear e3
                      have hba : w.heap.size ≤ V.heap.size := JV.out.gro.base1
                      have HA3 : Hid (R = overR l false f ((vs ++ [(⟨k, PA, pn, pc⟩ : TokV)]).map TokV.t) op root u) := Lib.hid (by rw [HA2.out, if_neg (by rw [hleft]; simp), List.map_append]; rfl)
                      have HPX : Hid (PRd V V.heap.size PA pn pc k.pairs ∧ (0 < pc → ∀ b i, PA = some ⟨b, i, none⟩ → some b ≠ Value.ownBlock _)) := Lib.hid ⟨(HX.out.1.below HBX.out).more HBX.out.size, HX.out.2⟩
                      have hxs : w2.heap.size < V.heap.size := lt_of HQ.out
                      clear hleft HA2
                      go_wp2_with (first
                        | (refine wpList_load_row rfl _ _ rfl w2.heap.size rfl _ _ _ _ HQ.out HU.out.2 rfl HU.out.1 ?_)
                        | (at_builtin; refine wpList_appK rfl (.tmp 108) (.tmp 110) 39 30 rfl (.agg #[.int .i64 0, .int .i64 0, .int .i64 0, .string ⟨#[]⟩, .string ⟨#[]⟩, .slice none 0 0, .int .i64 0]) 7 88 Tryz.underlying39 info_rtok rfl (by decide) w.heap.size _ vs.length (cellsK vs) rfl JV.out.gro.own (TokV.cells ⟨k, PA, pn, pc⟩) _ rfl rfl rfl (cells_one _) hvl (by decide) hba ?_))
                      intro v5 w5 hown5 hg5 hat5
                      have J5 := Lib.hid (JV.out.appended (x := ⟨k, PA, pn, pc⟩) HPX.out.1 HPX.out.2 hown5 hg5 hat5)
                      have x2' : w5.cell? ⟨w2.heap.size, 2, none⟩ = some (.int .i64 k.to_) := cell_of 2 ((hg5.block w2.heap.size (by simp; omega) (HF0.out)).trans ((Below.heap_alloc _ _ _ hxs).trans HQ.out))
                      clear hown5 hg5 hat5 x0 x2 x3 x4
                      go_wp2
                      go_roundg (f - 1)
                      case measure => have := hg.out; have := hgf.out; omega
                      case rel => exact ⟨u, vs ++ [⟨k, PA, pn, pc⟩], f - 1, op, root, _, rfl, by rw [HUu.out], rfl, by omega, Lib.hid rfl, Lib.hid (by have := hg.out; omega), Lib.hid (by have := hal.out; simp; omega), Lib.hid (by have := hopl.out; omega), Lib.hid (by rw [HA3.out, show f - 1 + 1 = f by have := hg.out; omega]), J5⟩
                    · have k2 : (k.kind == 2) = false := by simp [e4]
                      have k3 : (k.kind == 3) = false := by simp [e4]
                      have k4 : (k.kind == 4) = true := by simp [e4]
                      clear e4
                      have hba : w.heap.size ≤ V.heap.size := JV.out.gro.base1
                      have HA3 : Hid (R = overR l false f ((vs ++ [(⟨k, PA, pn, pc⟩ : TokV)]).map TokV.t) op root u) := Lib.hid (by rw [HA2.out, if_neg (by rw [hleft]; simp), List.map_append]; rfl)
                      have HPX : Hid (PRd V V.heap.size PA pn pc k.pairs ∧ (0 < pc → ∀ b i, PA = some ⟨b, i, none⟩ → some b ≠ Value.ownBlock _)) := Lib.hid ⟨(HX.out.1.below HBX.out).more HBX.out.size, HX.out.2⟩
                      have hxs : w2.heap.size < V.heap.size := lt_of HQ.out
                      clear hleft HA2
                      go_wp2_with (first
                        | (refine wpList_load_row rfl _ _ rfl w2.heap.size rfl _ _ _ _ HQ.out HU.out.2 rfl HU.out.1 ?_)
                        | (at_builtin; refine wpList_appK rfl (.tmp 108) (.tmp 110) 39 30 rfl (.agg #[.int .i64 0, .int .i64 0, .int .i64 0, .string ⟨#[]⟩, .string ⟨#[]⟩, .slice none 0 0, .int .i64 0]) 7 88 Tryz.underlying39 info_rtok rfl (by decide) w.heap.size _ vs.length (cellsK vs) rfl JV.out.gro.own (TokV.cells ⟨k, PA, pn, pc⟩) _ rfl rfl rfl (cells_one _) hvl (by decide) hba ?_))
                      intro v5 w5 hown5 hg5 hat5
                      have J5 := Lib.hid (JV.out.appended (x := ⟨k, PA, pn, pc⟩) HPX.out.1 HPX.out.2 hown5 hg5 hat5)
                      have x2' : w5.cell? ⟨w2.heap.size, 2, none⟩ = some (.int .i64 k.to_) := cell_of 2 ((hg5.block w2.heap.size (by simp; omega) (HF0.out)).trans ((Below.heap_alloc _ _ _ hxs).trans HQ.out))
                      clear hown5 hg5 hat5 x0 x2 x3 x4
                      go_wp2
                      go_roundg (f - 1)
                      case measure => have := hg.out; have := hgf.out; omega
                      case rel => exact ⟨u, vs ++ [⟨k, PA, pn, pc⟩], f - 1, op, root, _, rfl, by rw [HUu.out], rfl, by omega, Lib.hid rfl, Lib.hid (by have := hg.out; omega), Lib.hid (by have := hal.out; simp; omega), Lib.hid (by have := hopl.out; omega), Lib.hid (by rw [HA3.out, show f - 1 + 1 = f by have := hg.out; omega]), J5⟩
                  | true =>
                    cases op with
                    | nil =>
                      have hs0 : SN = 0 := by simpa using hSN
                      clear hSN
                      subst hs0
                      have hms : mayS true [] root k = none := by unfold mayS; rw [if_neg e7, if_neg e8, if_neg e9, if_neg e1, if_pos e234]; rfl
                      have HA2 := Lib.hid (HNO.out hms)
                      clear hms HMO HNO e7 e8 e9 e1
                      rcases e234 with e2 | e3 | e4
                      · have k2 : (k.kind == 2) = true := by simp [e2]
                        clear e2
                        go_wp2
                        go_ret3
                        rw [HA2.out]
                        exact AllPost.bad rfl BV.out
                      · have k2 : (k.kind == 2) = false := by simp [e3]
                        have k3 : (k.kind == 3) = true := by simp [e3]
                        clear e3
                        go_wp2
                        go_ret3
                        rw [HA2.out]
                        exact AllPost.bad rfl BV.out
                      · have k2 : (k.kind == 2) = false := by simp [e4]
                        have k3 : (k.kind == 3) = false := by simp [e4]
                        have k4 : (k.kind == 4) = true := by simp [e4]
                        clear e4
                        go_wp2
                        go_ret3
                        rw [HA2.out]
                        exact AllPost.bad rfl BV.out
                    | cons a op =>
                      have hsn : ((SN : Int) == 0) = false := by rw [hSN, List.length_cons]; simp; omega
                      clear hSN
                      have hms : mayS true (a :: op) root k = some ((a :: op), root) := by unfold mayS; rw [if_neg e7, if_neg e8, if_neg e9, if_neg e1, if_pos e234]; rfl
                      have HA2 := Lib.hid (HMO.out (a :: op) root hms)
                      clear hms HMO HNO e7 e8 e9 e1
                      have HBX := Lib.hid (Below.refl V.heap.size V)
                      have hleft : leftOut true (a :: op) k = false := by simp [leftOut, (by simpa using n1 : k.kind ≠ 1)]
                      rcases e234 with e2 | e3 | e4
                      · have k2 : (k.kind == 2) = true := by simp [e2]
                        clear e2
                        have hba : w.heap.size ≤ V.heap.size := JV.out.gro.base1
                        have HA3 : Hid (R = overR l true f ((vs ++ [(⟨k, PA, pn, pc⟩ : TokV)]).map TokV.t) (a :: op) root u) := Lib.hid (by rw [HA2.out, if_neg (by rw [hleft]; simp), List.map_append]; rfl)
                        have HPX : Hid (PRd V V.heap.size PA pn pc k.pairs ∧ (0 < pc → ∀ b i, PA = some ⟨b, i, none⟩ → some b ≠ Value.ownBlock _)) := Lib.hid ⟨(HX.out.1.below HBX.out).more HBX.out.size, HX.out.2⟩
                        have hxs : w2.heap.size < V.heap.size := lt_of HQ.out
                        clear hleft HA2
                        go_wp2_with (first
                          | (refine wpList_load_row rfl _ _ rfl w2.heap.size rfl _ _ _ _ HQ.out HU.out.2 rfl HU.out.1 ?_)
                          | (at_builtin; refine wpList_appK rfl (.tmp 108) (.tmp 110) 39 30 rfl (.agg #[.int .i64 0, .int .i64 0, .int .i64 0, .string ⟨#[]⟩, .string ⟨#[]⟩, .slice none 0 0, .int .i64 0]) 7 88 Tryz.underlying39 info_rtok rfl (by decide) w.heap.size _ vs.length (cellsK vs) rfl JV.out.gro.own (TokV.cells ⟨k, PA, pn, pc⟩) _ rfl rfl rfl (cells_one _) hvl (by decide) hba ?_))
                        intro v5 w5 hown5 hg5 hat5
                        have J5 := Lib.hid (JV.out.appended (x := ⟨k, PA, pn, pc⟩) HPX.out.1 HPX.out.2 hown5 hg5 hat5)
                        have x2' : w5.cell? ⟨w2.heap.size, 2, none⟩ = some (.int .i64 k.to_) := cell_of 2 ((hg5.block w2.heap.size (by simp; omega) (HF0.out)).trans ((Below.heap_alloc _ _ _ hxs).trans HQ.out))
                        clear hown5 hg5 hat5 x0 x2 x3 x4
                        go_wp2
                        go_roundg (f - 1)
                        case measure => have := hg.out; have := hgf.out; omega
                        case rel => exact ⟨u, vs ++ [⟨k, PA, pn, pc⟩], f - 1, (a :: op), root, _, rfl, by rw [HUu.out], rfl, by omega, Lib.hid rfl, Lib.hid (by have := hg.out; omega), Lib.hid (by have := hal.out; simp; omega), Lib.hid (by have := hopl.out; omega), Lib.hid (by rw [HA3.out, show f - 1 + 1 = f by have := hg.out; omega]), J5⟩
                      · have k2 : (k.kind == 2) = false := by simp [e3]
                        have k3 : (k.kind == 3) = true := by simp [e3]
                        clear e3
                        have hba : w.heap.size ≤ V.heap.size := JV.out.gro.base1
                        have HA3 : Hid (R = overR l true f ((vs ++ [(⟨k, PA, pn, pc⟩ : TokV)]).map TokV.t) (a :: op) root u) := Lib.hid (by rw [HA2.out, if_neg (by rw [hleft]; simp), List.map_append]; rfl)
                        have HPX : Hid (PRd V V.heap.size PA pn pc k.pairs ∧ (0 < pc → ∀ b i, PA = some ⟨b, i, none⟩ → some b ≠ Value.ownBlock _)) := Lib.hid ⟨(HX.out.1.below HBX.out).more HBX.out.size, HX.out.2⟩
                        have hxs : w2.heap.size < V.heap.size := lt_of HQ.out
                        clear hleft HA2
                        go_wp2_with (first
                          | (refine wpList_load_row rfl _ _ rfl w2.heap.size rfl _ _ _ _ HQ.out HU.out.2 rfl HU.out.1 ?_)
                          | (at_builtin; refine wpList_appK rfl (.tmp 108) (.tmp 110) 39 30 rfl (.agg #[.int .i64 0, .int .i64 0, .int .i64 0, .string ⟨#[]⟩, .string ⟨#[]⟩, .slice none 0 0, .int .i64 0]) 7 88 Tryz.underlying39 info_rtok rfl (by decide) w.heap.size _ vs.length (cellsK vs) rfl JV.out.gro.own (TokV.cells ⟨k, PA, pn, pc⟩) _ rfl rfl rfl (cells_one _) hvl (by decide) hba ?_))
                        intro v5 w5 hown5 hg5 hat5
                        have J5 := Lib.hid (JV.out.appended (x := ⟨k, PA, pn, pc⟩) HPX.out.1 HPX.out.2 hown5 hg5 hat5)
                        have x2' : w5.cell? ⟨w2.heap.size, 2, none⟩ = some (.int .i64 k.to_) := cell_of 2 ((hg5.block w2.heap.size (by simp; omega) (HF0.out)).trans ((Below.heap_alloc _ _ _ hxs).trans HQ.out))
                        clear hown5 hg5 hat5 x0 x2 x3 x4
                        go_wp2
                        go_roundg (f - 1)
                        case measure => have := hg.out; have := hgf.out; omega
                        case rel => exact ⟨u, vs ++ [⟨k, PA, pn, pc⟩], f - 1, (a :: op), root, _, rfl, by rw [HUu.out], rfl, by omega, Lib.hid rfl, Lib.hid (by have := hg.out; omega), Lib.hid (by have := hal.out; simp; omega), Lib.hid (by have := hopl.out; omega), Lib.hid (by rw [HA3.out, show f - 1 + 1 = f by have := hg.out; omega]), J5⟩
                      · have k2 : (k.kind == 2) = false := by simp [e4]
                        have k3 : (k.kind == 3) = false := by simp [e4]
                        have k4 : (k.kind == 4) = true := by simp [e4]
                        clear e4
                        have hba : w.heap.size ≤ V.heap.size := JV.out.gro.base1
                        have HA3 : Hid (R = overR l true f ((vs ++ [(⟨k, PA, pn, pc⟩ : TokV)]).map TokV.t) (a :: op) root u) := Lib.hid (by rw [HA2.out, if_neg (by rw [hleft]; simp), List.map_append]; rfl)
                        have HPX : Hid (PRd V V.heap.size PA pn pc k.pairs ∧ (0 < pc → ∀ b i, PA = some ⟨b, i, none⟩ → some b ≠ Value.ownBlock _)) := Lib.hid ⟨(HX.out.1.below HBX.out).more HBX.out.size, HX.out.2⟩
                        have hxs : w2.heap.size < V.heap.size := lt_of HQ.out
                        clear hleft HA2
                        go_wp2_with (first
                          | (refine wpList_load_row rfl _ _ rfl w2.heap.size rfl _ _ _ _ HQ.out HU.out.2 rfl HU.out.1 ?_)
                          | (at_builtin; refine wpList_appK rfl (.tmp 108) (.tmp 110) 39 30 rfl (.agg #[.int .i64 0, .int .i64 0, .int .i64 0, .string ⟨#[]⟩, .string ⟨#[]⟩, .slice none 0 0, .int .i64 0]) 7 88 Tryz.underlying39 info_rtok rfl (by decide) w.heap.size _ vs.length (cellsK vs) rfl JV.out.gro.own (TokV.cells ⟨k, PA, pn, pc⟩) _ rfl rfl rfl (cells_one _) hvl (by decide) hba ?_))
                        intro v5 w5 hown5 hg5 hat5
                        have J5 := Lib.hid (JV.out.appended (x := ⟨k, PA, pn, pc⟩) HPX.out.1 HPX.out.2 hown5 hg5 hat5)
                        have x2' : w5.cell? ⟨w2.heap.size, 2, none⟩ = some (.int .i64 k.to_) := cell_of 2 ((hg5.block w2.heap.size (by simp; omega) (HF0.out)).trans ((Below.heap_alloc _ _ _ hxs).trans HQ.out))
                        clear hown5 hg5 hat5 x0 x2 x3 x4
                        go_wp2
                        go_roundg (f - 1)
                        case measure => have := hg.out; have := hgf.out; omega
                        case rel => exact ⟨u, vs ++ [⟨k, PA, pn, pc⟩], f - 1, (a :: op), root, _, rfl, by rw [HUu.out], rfl, by omega, Lib.hid rfl, Lib.hid (by have := hg.out; omega), Lib.hid (by have := hal.out; simp; omega), Lib.hid (by have := hopl.out; omega), Lib.hid (by rw [HA3.out, show f - 1 + 1 = f by have := hg.out; omega]), J5⟩
                · have e2 : k.kind ≠ 2 := fun e => e234 (.inl e)
                  have e3 : k.kind ≠ 3 := fun e => e234 (.inr (.inl e))
                  have e4 : k.kind ≠ 4 := fun e => e234 (.inr (.inr e))
                  have k7 : (k.kind == 7) = false := by simp [e7]
                  have k8 : (k.kind == 8) = false := by simp [e8]
                  have k9 : (k.kind == 9) = false := by simp [e9]
                  have k1 : (k.kind == 1) = false := by simp [e1]
                  have k2 : (k.kind == 2) = false := by simp [e2]
                  have k3 : (k.kind == 3) = false := by simp [e3]
                  have k4 : (k.kind == 4) = false := by simp [e4]
                  have n1 : (k.kind != 1) = true := by simp [e1]
                  cases whole with
                  | false =>
                    clear hSN
                    have hms : mayS false op root k = some (op, root) := by unfold mayS; rw [if_neg e7, if_neg e8, if_neg e9, if_neg e1, if_neg e234]
                    have HA2 := Lib.hid (HMO.out op root hms)
                    clear hms HMO HNO e7 e8 e9 e1 e234 e2 e3 e4
                    have HBX := Lib.hid (Below.refl V.heap.size V)
                    have hleft : leftOut false op k = false := by simp [leftOut, (by simpa using n1 : k.kind ≠ 1)]
                    have hba : w.heap.size ≤ V.heap.size := JV.out.gro.base1
                    have HA3 : Hid (R = overR l false f ((vs ++ [(⟨k, PA, pn, pc⟩ : TokV)]).map TokV.t) op root u) := Lib.hid (by rw [HA2.out, if_neg (by rw [hleft]; simp), List.map_append]; rfl)
                    have HPX : Hid (PRd V V.heap.size PA pn pc k.pairs ∧ (0 < pc → ∀ b i, PA = some ⟨b, i, none⟩ → some b ≠ Value.ownBlock _)) := Lib.hid ⟨(HX.out.1.below HBX.out).more HBX.out.size, HX.out.2⟩
                    have hxs : w2.heap.size < V.heap.size := lt_of HQ.out
                    clear hleft HA2
                    go_wp2_with (first
                      | (refine wpList_load_row rfl _ _ rfl w2.heap.size rfl _ _ _ _ HQ.out HU.out.2 rfl HU.out.1 ?_)
                      | (at_builtin; refine wpList_appK rfl (.tmp 108) (.tmp 110) 39 30 rfl (.agg #[.int .i64 0, .int .i64 0, .int .i64 0, .string ⟨#[]⟩, .string ⟨#[]⟩, .slice none 0 0, .int .i64 0]) 7 88 Tryz.underlying39 info_rtok rfl (by decide) w.heap.size _ vs.length (cellsK vs) rfl JV.out.gro.own (TokV.cells ⟨k, PA, pn, pc⟩) _ rfl rfl rfl (cells_one _) hvl (by decide) hba ?_))
                    intro v5 w5 hown5 hg5 hat5
                    have J5 := Lib.hid (JV.out.appended (x := ⟨k, PA, pn, pc⟩) HPX.out.1 HPX.out.2 hown5 hg5 hat5)
                    have x2' : w5.cell? ⟨w2.heap.size, 2, none⟩ = some (.int .i64 k.to_) := cell_of 2 ((hg5.block w2.heap.size (by simp; omega) (HF0.out)).trans ((Below.heap_alloc _ _ _ hxs).trans HQ.out))
                    clear hown5 hg5 hat5 x0 x2 x3 x4
                    go_wp2
                    go_roundg (f - 1)
                    case measure => have := hg.out; have := hgf.out; omega
                    case rel => exact ⟨u, vs ++ [⟨k, PA, pn, pc⟩], f - 1, op, root, _, rfl, by rw [HUu.out], rfl, by omega, Lib.hid rfl, Lib.hid (by have := hg.out; omega), Lib.hid (by have := hal.out; simp; omega), Lib.hid (by have := hopl.out; omega), Lib.hid (by rw [HA3.out, show f - 1 + 1 = f by have := hg.out; omega]), J5⟩
                  | true =>
                    cases op with
                    | nil =>
                      have hs0 : SN = 0 := by simpa using hSN
                      clear hSN
                      subst hs0
                      have hms : mayS true [] root k = some ([], root) := by unfold mayS; rw [if_neg e7, if_neg e8, if_neg e9, if_neg e1, if_neg e234]
                      have HA2 := Lib.hid (HMO.out [] root hms)
                      clear hms HMO HNO e7 e8 e9 e1 e234 e2 e3 e4
                      have HBX := Lib.hid (Below.refl V.heap.size V)
                      have hleft : leftOut true [] k = false := by simp [leftOut, (by simpa using n1 : k.kind ≠ 1)]
                      have hba : w.heap.size ≤ V.heap.size := JV.out.gro.base1
                      have HA3 : Hid (R = overR l true f ((vs ++ [(⟨k, PA, pn, pc⟩ : TokV)]).map TokV.t) [] root u) := Lib.hid (by rw [HA2.out, if_neg (by rw [hleft]; simp), List.map_append]; rfl)
                      have HPX : Hid (PRd V V.heap.size PA pn pc k.pairs ∧ (0 < pc → ∀ b i, PA = some ⟨b, i, none⟩ → some b ≠ Value.ownBlock _)) := Lib.hid ⟨(HX.out.1.below HBX.out).more HBX.out.size, HX.out.2⟩
                      have hxs : w2.heap.size < V.heap.size := lt_of HQ.out
                      clear hleft HA2
                      go_wp2_with (first
                        | (refine wpList_load_row rfl _ _ rfl w2.heap.size rfl _ _ _ _ HQ.out HU.out.2 rfl HU.out.1 ?_)
                        | (at_builtin; refine wpList_appK rfl (.tmp 108) (.tmp 110) 39 30 rfl (.agg #[.int .i64 0, .int .i64 0, .int .i64 0, .string ⟨#[]⟩, .string ⟨#[]⟩, .slice none 0 0, .int .i64 0]) 7 88 Tryz.underlying39 info_rtok rfl (by decide) w.heap.size _ vs.length (cellsK vs) rfl JV.out.gro.own (TokV.cells ⟨k, PA, pn, pc⟩) _ rfl rfl rfl (cells_one _) hvl (by decide) hba ?_))
                      intro v5 w5 hown5 hg5 hat5
                      have J5 := Lib.hid (JV.out.appended (x := ⟨k, PA, pn, pc⟩) HPX.out.1 HPX.out.2 hown5 hg5 hat5)
                      have x2' : w5.cell? ⟨w2.heap.size, 2, none⟩ = some (.int .i64 k.to_) := cell_of 2 ((hg5.block w2.heap.size (by simp; omega) (HF0.out)).trans ((Below.heap_alloc _ _ _ hxs).trans HQ.out))
                      clear hown5 hg5 hat5 x0 x2 x3 x4
                      go_wp2
                      go_roundg (f - 1)
                      case measure => have := hg.out; have := hgf.out; omega
                      case rel => exact ⟨u, vs ++ [⟨k, PA, pn, pc⟩], f - 1, [], root, _, rfl, by rw [HUu.out], rfl, by omega, Lib.hid rfl, Lib.hid (by have := hg.out; omega), Lib.hid (by have := hal.out; simp; omega), Lib.hid (Nat.zero_le _), Lib.hid (by rw [HA3.out, show f - 1 + 1 = f by have := hg.out; omega]), J5⟩
                    | cons a op =>
                      have hsn : ((SN : Int) == 0) = false := by rw [hSN, List.length_cons]; simp; omega
                      clear hSN
                      have hms : mayS true (a :: op) root k = some ((a :: op), root) := by unfold mayS; rw [if_neg e7, if_neg e8, if_neg e9, if_neg e1, if_neg e234]
                      have HA2 := Lib.hid (HMO.out (a :: op) root hms)
                      clear hms HMO HNO e7 e8 e9 e1 e234 e2 e3 e4
                      have HBX := Lib.hid (Below.refl V.heap.size V)
                      have hleft : leftOut true (a :: op) k = false := by simp [leftOut, (by simpa using n1 : k.kind ≠ 1)]
                      have hba : w.heap.size ≤ V.heap.size := JV.out.gro.base1
                      have HA3 : Hid (R = overR l true f ((vs ++ [(⟨k, PA, pn, pc⟩ : TokV)]).map TokV.t) (a :: op) root u) := Lib.hid (by rw [HA2.out, if_neg (by rw [hleft]; simp), List.map_append]; rfl)
                      have HPX : Hid (PRd V V.heap.size PA pn pc k.pairs ∧ (0 < pc → ∀ b i, PA = some ⟨b, i, none⟩ → some b ≠ Value.ownBlock _)) := Lib.hid ⟨(HX.out.1.below HBX.out).more HBX.out.size, HX.out.2⟩
                      have hxs : w2.heap.size < V.heap.size := lt_of HQ.out
                      clear hleft HA2
                      go_wp2_with (first
                        | (refine wpList_load_row rfl _ _ rfl w2.heap.size rfl _ _ _ _ HQ.out HU.out.2 rfl HU.out.1 ?_)
                        | (at_builtin; refine wpList_appK rfl (.tmp 108) (.tmp 110) 39 30 rfl (.agg #[.int .i64 0, .int .i64 0, .int .i64 0, .string ⟨#[]⟩, .string ⟨#[]⟩, .slice none 0 0, .int .i64 0]) 7 88 Tryz.underlying39 info_rtok rfl (by decide) w.heap.size _ vs.length (cellsK vs) rfl JV.out.gro.own (TokV.cells ⟨k, PA, pn, pc⟩) _ rfl rfl rfl (cells_one _) hvl (by decide) hba ?_))
                      intro v5 w5 hown5 hg5 hat5
                      have J5 := Lib.hid (JV.out.appended (x := ⟨k, PA, pn, pc⟩) HPX.out.1 HPX.out.2 hown5 hg5 hat5)
                      have x2' : w5.cell? ⟨w2.heap.size, 2, none⟩ = some (.int .i64 k.to_) := cell_of 2 ((hg5.block w2.heap.size (by simp; omega) (HF0.out)).trans ((Below.heap_alloc _ _ _ hxs).trans HQ.out))
                      clear hown5 hg5 hat5 x0 x2 x3 x4
                      go_wp2
                      go_roundg (f - 1)
                      case measure => have := hg.out; have := hgf.out; omega
                      case rel => exact ⟨u, vs ++ [⟨k, PA, pn, pc⟩], f - 1, (a :: op), root, _, rfl, by rw [HUu.out], rfl, by omega, Lib.hid rfl, Lib.hid (by have := hg.out; omega), Lib.hid (by have := hal.out; simp; omega), Lib.hid (by have := hopl.out; omega), Lib.hid (by rw [HA3.out, show f - 1 + 1 = f by have := hg.out; omega]), J5⟩
      · have HA2 := Lib.hid (hbad e rfl he)
        have hei : ((e : Int) == 0) = false := by simp; omega
        clear hok hbad hno hmore htl htx
        go_wp2_with fail
        refine C2.out.mono ?_
        intro e0 w2 hp
        obtain ⟨PA, pn, pc, rfl, hpr, hb, hlo⟩ := hp.out
        have B := Lib.hid ((HJ.out.kept hb).gro.below.alloc (HJ.out.kept hb).gro.below.size (.cells #[.int .i64 k.kind, .int .i64 k.fro, .int .i64 k.to_, .string ⟨k.name.toArray⟩, .string ⟨k.text.toArray⟩, .slice PA pn pc, .int .i64 k.r] 30))
        clear hpr hb hlo hp
        go_wp2
        go_ret3
        rw [HA2.out]
        exact AllPost.bad rfl B.out
    · have hti : ¬ (t : Int) < (n : Int) := by omega
      obtain rfl : t = n := by omega
      have htl : ¬ t < l.length := by rw [HLn.out]; exact htn
      obtain ⟨SA, SN, SC, hsv, hSN⟩ : ∃ SA SN SC, sv = .slice SA SN SC ∧ SN = op.length := by
        obtain ⟨a, b, h⟩ := HJ.out.own.form
        exact ⟨a, _, b, h, rfl⟩
      subst hsv
      subst hs10
      cases op with
      | cons a op =>
        have hsn : (0 : Int) < (SN : Int) := by rw [hSN, List.length_cons]; omega
        have HA2 := Lib.hid (HE.out.trans (over_open htl (by simp)))
        clear hSN htl
        go_wp2
        go_ret3
        rw [HA2.out]
        exact AllPost.bad rfl HJ.out.gro.below
      | nil =>
        have hs0 : SN = 0 := by simpa using hSN
        clear hSN
        subst hs0
        cases whole with
        | false =>
          have HA2 := Lib.hid (HE.out.trans (over_end htl (by simp)))
          clear htl
          go_wp2
          go_ret3
          rw [HA2.out]
          exact AllPost.good HJ.out.gro rfl
        | true =>
          cases root with
          | false =>
            have HA2 := Lib.hid (HE.out.trans (over_open htl (by simp)))
            clear htl
            go_wp2
            go_ret3
            rw [HA2.out]
            exact AllPost.bad rfl HJ.out.gro.below
          | true =>
            have HA2 := Lib.hid (HE.out.trans (over_end htl (by simp)))
            clear htl
            go_wp2
            go_ret3
            rw [HA2.out]
            exact AllPost.good HJ.out.gro rfl
end Go.Proofs.YtmclngahdklfkaaGreatDoor
