/- Texts of ours, joined: CkM, CkT. -/
import Derived.Test.YtocbofeanfdggaaDoorRows
import Derived.WalkKit
import Derived.ProofKit
import Derived.OpenShut
import Derived.ShutString
import Derived.ChangeOld
import Derived.Below
import Derived.BigQuiet
import Derived.Deep.QuietTactic
import Derived.Lib.Hide
import Derived.Deep.RegionHeld3
import Derived.Lib.SlBytesConst
import Derived.Laws.CopyOwn
import Derived.Laws.CopyRow
import Derived.Lib.Bytes
import Derived.Deep.LoopGhost
import Derived.Deep.DeepFit
import Derived.Deep.DeepMust
import Derived.WalkSpells
import Derived.WalkLawsBesides
import Derived.Maps.OwnOps
import Derived.Maps.OwnSet
import Derived.Maps.Views
import Derived.Laws.EntriesVeiled
import Derived.Laws.Rows
import Derived.Maps.AppendAt
import Derived.Lib.SmallJoins
import Derived.Deep.AppendLies
import Derived.DeepKeys4
import Derived.MapViews
import Derived.Maps.Keyed
import Derived.Test.YtocbofeanfdggaaDoorQ1
import Derived.Test.YtocbofeanfdggaaDoorQ2
import Derived.Test.YtocbofeanfdggaaDoorQ3
import Derived.Test.YtocbofeanfdggaaDoorQ4
import Derived.Test.YtocbofeanfdggaaDoorQ5
import Derived.Test.YtocbofeanfdggaaDoorQ6
import Derived.Test.YtocbofeanfdggaaDoorQ11
import Derived.Test.YtocbofeanfdggaaDoorQ12
import Derived.Test.YtocbofeanfdggaaDoorQ13
import Derived.Test.YtocbofeanfdggaaDoorQ14
import Derived.Test.YtocbofeanfdggaaDoorQ17
import Derived.Test.YtocbofeanfdggaaDoorQ18
import Derived.Deep.RegionLaw
import Derived.Deep.RegionWith
import Derived.Test.YtocbofeanfdggaaDoorQ20
/- A map that counts names (its key is a struct). -/
namespace Go.Proofs.YtocbofeanfdggaaDoor
open Go.ChangeShapes Go.WideShapes Go.ChangeAt Go.RowKit
set_option linter.unusedVariables false
theorem laidOutP : laidOutB Tryd.prog = true := by kernel_rfl
theorem nmCells : Tryd.prog.cellsOf 37 = 2 := by kernel_rfl
theorem nmWide : (match Tryd.prog.underlying 37 with | some (.array _ _) | some (.struct _) => true | _ => false) = true := by kernel_rfl
theorem nmDeep : Tryd.prog.keyTypeAt (Tryd.prog.types.size + 1) 37 = true := by kernel_rfl
set_option maxRecDepth 100000 in
set_option maxHeartbeats 4000000 in
theorem lawNm : Go.Maps.Keyed Tryd.prog 37 := Go.Maps.Keyed.of_law (deep_law_laid laidOutP (m := 2) (by omega) (of_decide_eq_true (by kernel_rfl)) (by kernel_rfl) nmWide)
/-- A name as a map's key. -/
def keyNm (x : List UInt8 × List UInt8) : Lit := .string (keyBytes [.string x.1, .string x.2])
def shortNm (x : List UInt8 × List UInt8) : Prop := x.1.length ≤ 1000000 ∧ x.2.length ≤ 1000000
set_option maxRecDepth 100000 in
set_option maxHeartbeats 4000000 in
theorem keyNm_inj {x y : List UInt8 × List UInt8} (hx : shortNm x) (hy : shortNm y) (h : keyNm x = keyNm y) : x = y := by
  unfold keyNm at h
  injection h with h
  have b1 := hx.1
  have b2 := hx.2
  have b3 := hy.1
  have b4 := hy.2
  have := keyBytes_inj (l := [.string x.1, .string x.2]) (l' := [.string y.1, .string y.2]) ⟨trivial, trivial, trivial⟩
    (fun a ha => by
      simp only [List.mem_cons, List.not_mem_nil, or_false] at ha
      rcases ha with rfl | rfl <;> (show _ ≤ maxLen; unfold maxLen; omega))
    (fun a ha => by
      simp only [List.mem_cons, List.not_mem_nil, or_false] at ha
      rcases ha with rfl | rfl <;> (show _ ≤ maxLen; unfold maxLen; omega)) h
  simp only [List.cons.injEq, Lit.string.injEq, and_true] at this
  exact Prod.ext this.1 this.2
set_option maxRecDepth 100000 in
set_option maxHeartbeats 4000000 in
theorem keyNm_of {sp lo : List UInt8} (h : shortNm (sp, lo)) : keyOf Tryd.prog 37 (.agg #[.string ⟨sp.toArray⟩, .string ⟨lo.toArray⟩]) = some (keyNm (sp, lo)) := by
  have b1 : sp.length ≤ 1000000 := h.1
  have b2 : lo.length ≤ 1000000 := h.2
  have s1 : (⟨sp.toArray⟩ : ByteArray).size ≤ maxLen := by simp [ByteArray.size]; unfold maxLen; omega
  have s2 : (⟨lo.toArray⟩ : ByteArray).size ≤ maxLen := by simp [ByteArray.size]; unfold maxLen; omega
  have hT : DataW.Trod (H := Unit) (fun _ => ()) Tryd.prog (World.settled Tryd.prog default) 0 (fun _ => true) true 37 (.agg #[.string ⟨sp.toArray⟩, .string ⟨lo.toArray⟩]) (.agg [.lit (.string sp), .lit (.string lo)]) [] :=
    Go.Joins.shut_agg2 (y0 := (.lit (.string sp), [])) (y1 := (.lit (.string lo), [])) Tryd.underlying37 (by kernel_rfl) nmCells ⟨1, by simp [DataW.trod, Tryd.underlying9, s1]⟩ ⟨1, by simp [DataW.trod, Tryd.underlying9, s2]⟩
  have hf : (Value.agg #[.string ⟨sp.toArray⟩, .string ⟨lo.toArray⟩]).formed Tryd.prog 37 = true := by simp [Value.formed, Tryd.underlying37, nmCells]
  exact (keyOf_asKey nmDeep nmWide hf hT).1
/-- The names so far, in a map that counts them. -/
def CntN (w : World) (b : Nat) (acc : List (List UInt8 × List UInt8)) : Prop := ∃ D : DataW Unit, w.ownsMap Tryd.prog 37 (Go.plainElem Tryd.prog 3) b acc.length D ∧
  ∀ x, shortNm x → ∃ c : Nat, c ≤ acc.length ∧ D.atKey (keyNm x) (.lit (.int .i64 0)) = .lit (.int .i64 (c : Int)) ∧ hasNm acc x = decide (0 < c)
theorem CntN.start (w : World) : CntN (w.alloc (.map #[] 0)) w.heap.size [] := ⟨.map [], World.ownsMap_made _ _ _ _, fun x _ => ⟨0, Nat.le_refl _, rfl, rfl⟩⟩
set_option maxRecDepth 100000 in
set_option maxHeartbeats 4000000 in
theorem lawNmK : WideMaps.KeyLaw Tryd.prog 37 := deep_law_laid laidOutP (m := 2) (by omega) (of_decide_eq_true (by kernel_rfl)) (by kernel_rfl) nmWide
theorem nmMap_keep {H : Type} {w w' : World} {k : TypeId} {R : Value → Option (DataW H × List MemPlace)} {b n : Nat} {D : DataW H} (h : w.ownsMap Tryd.prog k R b n D) (hk : w'.heap[b]? = w.heap[b]?) : w'.ownsMap Tryd.prog k R b n D := by
  obtain ⟨es, clock, hb, r⟩ := h
  exact ⟨es, clock, hk.trans hb, r⟩
theorem nmMap_at {H : Type} {w : World} {k : TypeId} {R : Value → Option (DataW H × List MemPlace)} {b n : Nat} {D : DataW H} (h : w.ownsMap Tryd.prog k R b n D) : b < w.heap.size := by
  obtain ⟨es, clock, hb, r⟩ := h
  exact lt_of hb
theorem nmMap_is {H : Type} {w : World} {k : TypeId} {R : Value → Option (DataW H × List MemPlace)} {b n : Nat} {D : DataW H} (h : w.ownsMap Tryd.prog k R b n D) : Go.Maps.IsMap D := by
  obtain ⟨es, clock, hb, _, _, rfl⟩ := h
  exact ⟨_, rfl⟩
theorem nmZero (w : World) : (zeroValue 3).run Tryd.prog w = .ok (.int .i64 0) w := by kernel_rfl
theorem cntN_snoc {D : DataW Unit} {acc : List (List UInt8 × List UInt8)} {p : List UInt8 × List UInt8} {c : Nat} (hp : shortNm p) (hm : Go.Maps.IsMap D)
    (hc : ∀ x, shortNm x → ∃ c : Nat, c ≤ acc.length ∧ D.atKey (keyNm x) (.lit (.int .i64 0)) = .lit (.int .i64 (c : Int)) ∧ hasNm acc x = decide (0 < c)) (hcl : c ≤ acc.length) :
    ∀ x, shortNm x → ∃ c' : Nat, c' ≤ (acc ++ [p]).length ∧ (D.put (keyNm p) (.lit (.int .i64 ((c : Int) + 1)))).atKey (keyNm x) (.lit (.int .i64 0)) = .lit (.int .i64 (c' : Int)) ∧ hasNm (acc ++ [p]) x = decide (0 < c') := by
  intro x hx
  have hh : hasNm (acc ++ [p]) x = (hasNm acc x || decide (p = x)) := by unfold hasNm; rw [List.any_append]; simp
  by_cases e : p = x
  · subst e
    refine ⟨c + 1, by simp; omega, ?_, by rw [hh]; simp⟩
    rw [Go.Maps.atKey_put_same hm (by simp [WideAt.IsKeyLit, keyNm])]
    simp
  · obtain ⟨c', h1, h2, h3⟩ := hc x hx
    refine ⟨c', by simp; omega, ?_, by rw [hh, h3]; simp [e]⟩
    rw [Go.Maps.atKey_put_other (fun h => e (keyNm_inj hp hx h.symm)), h2]
theorem wf_smallN (c : Nat) (h : c ≤ 1000000) : (Lit.int .i64 ((c : Int) + 1)).wf = true := by
  simp only [Lit.wf, IntKind.min, IntKind.max, Bool.and_eq_true]
  constructor <;> (simp [IntKind.bits, IntKind.signed]; omega)
end Go.Proofs.YtocbofeanfdggaaDoor
/- check.texts. -/
namespace Go.Proofs.YtocbofeanfdggaaDoor
open Go.ChangeShapes Go.WideShapes Go.ChangeAt Go.RowKit
set_option linter.unusedVariables false
/-- What is asked of the world. -/
structure WC (w : World) : Prop where
  put : W8F w
  tabs : Tabs w
theorem WC.below {w w' : World} (h : WC w) (hb : Below w.heap.size w w') : WC w' := ⟨h.put.below hb, h.tabs.below hb (h.tabs.low h.put.forms)⟩
set_option maxRecDepth 100000 in
set_option maxHeartbeats 8000000 in
theorem texts_c (k : Int) (sp lo tx : List UInt8) (A : Option Addr) (n cap : Nat) (ats : List (List UInt8 × List UInt8 × List UInt8)) (w : World) (h : RRd cA 3 w w.heap.size A n cap ats) (hm : n ≤ 100000) (hW : WC w) (htx : tx.length ≤ 5000) (hlo : lo.length ≤ 5000) (hl : ∀ x ∈ namesE ⟨k, sp, lo, ats, tx⟩, x.1.length ≤ 1000000) (hv : ∀ x ∈ ats, x.2.2.length ≤ 1000000) :
    Calls Tryd.prog 45 #[.agg #[.int .i64 k, .string ⟨sp.toArray⟩, .string ⟨lo.toArray⟩, .slice A n cap, .string ⟨tx.toArray⟩]] w fun e w' => e = .returned (.bool (textsB ⟨k, sp, lo, ats, tx⟩)) ∧ Below w.heap.size w w' := by
  have J0 := Lib.hid (CJ.start 40 w #[.int .i64 k, .string ⟨sp.toArray⟩, .string ⟨lo.toArray⟩, .slice A n cap, .string ⟨tx.toArray⟩])
  have z0 := cell_of 0 J0.out.2
  have z1 := cell_of 1 J0.out.2
  have z2 := cell_of 2 J0.out.2
  have z3 := cell_of 3 J0.out.2
  have z4 := cell_of 4 J0.out.2
  have hnl : (namesE ⟨k, sp, lo, ats, tx⟩).length ≤ n + 1 := by
    have := h.len
    unfold namesE namesA
    split <;> simp <;> omega
  have C1 := Lib.hid (ckNames_c k sp lo tx A n cap ats _ ((h.below J0.out.1).more J0.out.1.size) hm)
  have HP : Hid (∀ W, Below w.heap.size w W → RRd cA 3 W W.heap.size A n cap ats) := Lib.hid fun W hb => (h.below hb).more hb.size
  have HLN : Hid (ats.length = n) := Lib.hid h.len
  have HM : Hid (∀ (s : List UInt8) (W : World), Below w.heap.size w W → s.length ≤ 1000000 → Calls Tryd.prog 60 #[.string ⟨s.toArray⟩] W fun e w' => e = .returned (.bool (allOut isDoc s)) ∧ Below W.heap.size W w') := Lib.hid fun s W hb hs => may_c s W (hW.below hb).tabs (hW.below hb).put.forms hs
  have HV : Hid (∀ x ∈ ats, x.2.2.length ≤ 1000000) := Lib.hid hv
  have HS : Hid (∀ x ∈ namesE ⟨k, sp, lo, ats, tx⟩, x.1.length ≤ 1000000) := Lib.hid hl
  have HW : Hid (∀ W, Below w.heap.size w W → WC W) := Lib.hid fun W hb => hW.below hb
  have HTX := Lib.hid htx
  have HLO := Lib.hid hlo
  have HR0 : Hid (textsB ⟨k, sp, lo, ats, tx⟩ = (spacesB ((namesE ⟨k, sp, lo, ats, tx⟩).drop 0) && (valuesB (ats.drop 0) && ownB ⟨k, sp, lo, ats, tx⟩))) := Lib.hid (by rw [textsB, Bool.and_assoc]; rfl)
  clear h hW htx hlo hl hv
  generalize textsB ⟨k, sp, lo, ats, tx⟩ = R at *
  obtain ⟨own, hown⟩ : ∃ x, ownB ⟨k, sp, lo, ats, tx⟩ = x := ⟨_, rfl⟩
  rw [hown] at HR0
  have HOWN := Lib.hid hown
  clear hown
  generalize namesE ⟨k, sp, lo, ats, tx⟩ = l at *
  obtain ⟨m, hll⟩ : ∃ m, l.length = m := ⟨_, rfl⟩
  have HLL := Lib.hid hll
  rw [hll] at C1 hnl
  clear hll
  go_enter Tryd.func45, Tryd.ntmps45
  go_wp2_with fail
  refine C1.out.mono ?_
  rintro e w1 ⟨A2, c2, rfl, hr, hb⟩
  have HB1 := Lib.hid (J0.out.1.trans (hb.mono J0.out.1.size))
  have HBJ := Lib.hid hb
  have HQ : Hid (∀ W, Below w1.heap.size w1 W → RRd cN 2 W W.heap.size A2 m c2 l) := Lib.hid fun W hb => (hr.below hb).more hb.size
  clear hr hb C1
  go_wp2
  go_loopg [11] (m) (fun g i wr => ∃ t : Nat, i = .int .i64 (t : Int) ∧ t ≤ m ∧ Hid (g + t = m) ∧ Hid (R = (spacesB (l.drop t) && (valuesB (ats.drop 0) && own))) ∧ Hid (Below w1.heap.size w1 wr))
  case atStart => exact ⟨0, rfl, Nat.zero_le _, Lib.hid rfl, HR0, Lib.hid (Below.refl _ _)⟩
  case round =>
    obtain ⟨t, rfl, ht, hg, HA, HB⟩ := hrel
    have ht0 : (0 : Int) ≤ (t : Int) := by omega
    have ht9 : (t : Int) ≤ 100001 := by omega
    by_cases htn : t < m
    · have hti : (t : Int) < (m : Int) := by omega
      obtain ⟨b1, o1, x, rfl, hb1, hx, hc1⟩ := (HQ.out _ HB.out).cell htn
      have hsx := HS.out x (List.mem_of_getElem? hx)
      have hdr : l.drop t = x :: l.drop (t + 1) := by
        have hl := (List.getElem?_eq_some_iff.1 hx).1
        have he : l[t] = x := by rw [List.getElem?_eq_getElem hl] at hx; exact Option.some.inj hx
        rw [List.drop_eq_getElem_cons hl, he]
      have hA := HA.out
      rw [hdr, spacesB, List.all_cons, ← spacesB] at hA
      obtain ⟨xs, xl⟩ := x
      have y0 : wr.cell? ⟨b1, o1 + t * 2, none⟩ = some (.string ⟨xs.toArray⟩) := by rw [show o1 + t * 2 = o1 + (t * 2 + 0) by omega]; exact hc1 0 _ rfl
      have y1 : wr.cell? ⟨b1, o1 + t * 2 + 1, none⟩ = some (.string ⟨xl.toArray⟩) := by rw [show o1 + t * 2 + 1 = o1 + (t * 2 + 1) by omega]; exact hc1 1 _ rfl
      have ka := (Below.refl wr.heap.size wr).alloc (Nat.le_refl _) (.cells #[.string ⟨xs.toArray⟩, .string ⟨xl.toArray⟩] 37)
      have HBa := Lib.hid (HB.out.trans (ka.mono HB.out.size))
      have C3 := Lib.hid (HM.out xs _ (HB1.out.trans (HBa.out.mono HB1.out.size)) hsx)
      clear hb1 hx hc1 hdr ka hsx
      generalize allOut isDoc xs = q at *
      have HA2 := Lib.hid hA
      clear hA HA
      go_wp2_with fail
      refine C3.out.mono ?_
      rintro e w2 ⟨rfl, hb2⟩
      have HB2 := Lib.hid (HBa.out.trans (hb2.mono HBa.out.size))
      clear hb2
      cases q with
      | false =>
        go_wp2
        go_ret
        exact ⟨by rw [HA2.out]; rfl, HB1.out.trans (HB2.out.mono HB1.out.size)⟩
      | true =>
        go_wp2
        go_roundg (m - (t + 1))
        case measure => have := hg.out; omega
        case rel => exact ⟨t + 1, by go_num, by omega, Lib.hid (by have := hg.out; omega), Lib.hid (by rw [HA2.out, Bool.true_and]), HB2⟩
    · have hti : ¬ (t : Int) < (m : Int) := by omega
      have HA2 : Hid (R = (valuesB (ats.drop 0) && own)) := Lib.hid (by rw [HA.out, List.drop_of_length_le (by rw [HLL.out]; omega)]; rfl)
      have HB2 := Lib.hid (HB1.out.trans (HB.out.mono HB1.out.size))
      clear HA hti HQ HS
      have J2 := Lib.hid (J0.out.kept (HBJ.out.trans (HB.out.mono HBJ.out.size)))
      have z3 := cell_of 3 J2.out.2
      go_wp2
      have HB0 : Hid (Below (w.alloc (.cells #[.int .i64 k, .string ⟨sp.toArray⟩, .string ⟨lo.toArray⟩, .slice A n cap, .string ⟨tx.toArray⟩] 40)).heap.size (w.alloc (.cells #[.int .i64 k, .string ⟨sp.toArray⟩, .string ⟨lo.toArray⟩, .slice A n cap, .string ⟨tx.toArray⟩] 40)) wr) := Lib.hid (HBJ.out.trans (HB.out.mono HBJ.out.size))
      clear HB HB2 HB1 HBJ hg ht0 ht9 htn ht z0 z1 z2 z3 z4
      go_loopg [23] (n) (fun g i wr => ∃ t : Nat, i = .int .i64 (t : Int) ∧ t ≤ n ∧ Hid (g + t = n) ∧ Hid (R = (valuesB (ats.drop t) && own)) ∧ Hid (Below (w.alloc (.cells #[.int .i64 k, .string ⟨sp.toArray⟩, .string ⟨lo.toArray⟩, .slice A n cap, .string ⟨tx.toArray⟩] 40)).heap.size (w.alloc (.cells #[.int .i64 k, .string ⟨sp.toArray⟩, .string ⟨lo.toArray⟩, .slice A n cap, .string ⟨tx.toArray⟩] 40)) wr))
      case atStart => exact ⟨0, rfl, Nat.zero_le _, Lib.hid rfl, HA2, HB0⟩
      case round =>
        clear HB0 HA2 J2
        obtain ⟨t, rfl, ht, hg, HA, HB⟩ := hrel
        have ht0 : (0 : Int) ≤ (t : Int) := by omega
        have ht9 : (t : Int) ≤ 100000 := by omega
        have HBW := Lib.hid (J0.out.1.trans (HB.out.mono J0.out.1.size))
        by_cases htn : t < n
        · have hti : (t : Int) < (n : Int) := by omega
          obtain ⟨b1, o1, x, rfl, hb1, hx, hc1⟩ := (HP.out _ HBW.out).cell htn
          have hsx := HV.out x (List.mem_of_getElem? hx)
          have hdr : ats.drop t = x :: ats.drop (t + 1) := by
            have hl := (List.getElem?_eq_some_iff.1 hx).1
            have he : ats[t] = x := by rw [List.getElem?_eq_getElem hl] at hx; exact Option.some.inj hx
            rw [List.drop_eq_getElem_cons hl, he]
          have hA := HA.out
          rw [hdr, valuesB, List.all_cons, ← valuesB] at hA
          obtain ⟨xs, xl, xv⟩ := x
          have y0 : wr.cell? ⟨b1, o1 + t * 3, none⟩ = some (.string ⟨xs.toArray⟩) := by rw [show o1 + t * 3 = o1 + (t * 3 + 0) by omega]; exact hc1 0 _ rfl
          have y1 : wr.cell? ⟨b1, o1 + t * 3 + 1, none⟩ = some (.string ⟨xl.toArray⟩) := by rw [show o1 + t * 3 + 1 = o1 + (t * 3 + 1) by omega]; exact hc1 1 _ rfl
          have y2 : wr.cell? ⟨b1, o1 + t * 3 + 2, none⟩ = some (.string ⟨xv.toArray⟩) := by rw [show o1 + t * 3 + 2 = o1 + (t * 3 + 2) by omega]; exact hc1 2 _ rfl
          have ka := (Below.refl wr.heap.size wr).alloc (Nat.le_refl _) (.cells #[.string ⟨xs.toArray⟩, .string ⟨xl.toArray⟩, .string ⟨xv.toArray⟩] 51)
          have HBa := Lib.hid (HB.out.trans (ka.mono HB.out.size))
          have C3 := Lib.hid (HM.out xv _ (J0.out.1.trans (HBa.out.mono J0.out.1.size)) hsx)
          clear hb1 hx hc1 hdr ka hsx
          generalize allOut isDoc xv = q at *
          have HA2 := Lib.hid hA
          clear hA HA
          go_wp2_with fail
          refine C3.out.mono ?_
          rintro e w2 ⟨rfl, hb2⟩
          have HB2 := Lib.hid (HBa.out.trans (hb2.mono HBa.out.size))
          clear hb2
          cases q with
          | false =>
            go_wp2
            go_ret
            exact ⟨by rw [HA2.out]; rfl, J0.out.1.trans (HB2.out.mono J0.out.1.size)⟩
          | true =>
            go_wp2
            go_roundg (n - (t + 1))
            case measure => have := hg.out; omega
            case rel => exact ⟨t + 1, by go_num, by omega, Lib.hid (by have := hg.out; omega), Lib.hid (by rw [HA2.out, Bool.true_and]), HB2⟩
        · have hti : ¬ (t : Int) < (n : Int) := by omega
          have HA2 : Hid (R = own) := Lib.hid (by rw [HA.out, List.drop_of_length_le (by rw [HLN.out]; omega)]; rfl)
          have J2 := Lib.hid (J0.out.kept HB.out)
          have HBW := Lib.hid (J0.out.1.trans (HB.out.mono J0.out.1.size))
          clear HA HP HV HB HLN HLL hg J0
          have z0 := cell_of 0 J2.out.2
          have z2 := cell_of 2 J2.out.2
          have z4 := cell_of 4 J2.out.2
          by_cases h3 : k = 3
          · subst h3
            cases tx with
            | nil =>
              go_wp2
              go_ret
              exact ⟨by rw [HA2.out, ← HOWN.out]; rfl, HBW.out⟩
            | cons a tl =>
              have C1 := Lib.hid (HM.out (a :: tl) wr HBW.out (by have := HTX.out; omega))
              have HO2 : Hid (allOut isDoc (a :: tl) = own) := Lib.hid HOWN.out
              clear HOWN HM
              generalize allOut isDoc (a :: tl) = q at *
              have hne : (⟨(a :: tl).toArray⟩ : ByteArray) ≠ ⟨#[]⟩ := by simp
              go_wp2_with fail
              refine C1.out.mono ?_
              rintro e w2 ⟨rfl, hb2⟩
              go_wp2
              go_ret
              exact ⟨by rw [HA2.out, HO2.out]; rfl, HBW.out.trans (hb2.mono HBW.out.size)⟩
          · by_cases h5 : k = 5
            · subst h5
              have C1 := Lib.hid (miscPutComment_c tx wr (HW.out _ HBW.out).put.maxl (by have := HTX.out; omega))
              have hF : mayComment tx = false → (((putCommentOut tx).2 : Int) != 7) = false := fun h => by unfold putCommentOut; rw [if_neg (by rw [h]; decide)]; rfl
              have hT : mayComment tx = true → (((putCommentOut tx).2 : Int) != 7) = true := fun h => by unfold putCommentOut; rw [if_pos h]; rfl
              have HF := Lib.hid hF
              have HT := Lib.hid hT
              clear hF hT
              have hO : (allOut isDoc tx && mayComment tx && !Lib.contains tx [13]) = own := HOWN.out
              generalize mayComment tx = d at *
              generalize putCommentOut tx = c at *
              obtain ⟨c1, c2⟩ := c
              go_wp2_with fail
              refine C1.out.mono ?_
              rintro e w2 ⟨rfl, hb2⟩
              have HB2 := Lib.hid (HBW.out.trans (hb2.mono HBW.out.size))
              have J3 := Lib.hid (J2.out.kept hb2)
              clear hb2 z4
              have z4 := cell_of 4 J3.out.2
              have C2 := Lib.hid (HM.out tx w2 HB2.out (by have := HTX.out; omega))

              have HO2 := Lib.hid hO
              clear hO HOWN HM
              generalize allOut isDoc tx = q at *
              go_wp2_with fail
              refine C2.out.mono ?_
              rintro e w3 ⟨rfl, hb3⟩
              have HB3 := Lib.hid (HB2.out.trans (hb3.mono HB2.out.size))
              have J4 := Lib.hid (J3.out.kept hb3)
              clear hb3 z4
              have z4 := cell_of 4 J4.out.2
              have C4 := Lib.hid (contains_c tx [13] w3 (HW.out _ HB3.out).put.maxl (by have := HTX.out; omega))
              generalize Lib.contains tx [13] = ct at *
              cases q with
              | false =>
                go_wp2
                go_ret
                exact ⟨by rw [HA2.out, ← HO2.out]; rfl, HB3.out⟩
              | true =>
                cases d with
                | false =>
                  have hdd : ((c2 : Int) != 7) = false := HF.out rfl
                  go_wp2
                  go_ret
                  exact ⟨by rw [HA2.out, ← HO2.out]; rfl, HB3.out⟩
                | true =>
                  have hdd : ((c2 : Int) != 7) = true := HT.out rfl
                  go_wp2_with fail
                  refine C4.out.mono ?_
                  rintro e w4 ⟨rfl, rfl⟩
                  go_wp2
                  go_ret
                  exact ⟨by rw [HA2.out, ← HO2.out]; rfl, HB3.out⟩
            · by_cases h4 : k = 4
              · subst h4
                have C1 := Lib.hid (putPi_c lo tx wr (HW.out _ HBW.out).put HLO.out HTX.out)
                have hF : (!decide ((putPiOut lo tx).2 = 7)) = false → (((putPiOut lo tx).2 : Int) != 7) = false := fun h => by simp at h; rw [h]; rfl
                have hT : (!decide ((putPiOut lo tx).2 = 7)) = true → (((putPiOut lo tx).2 : Int) != 7) = true := fun h => by simp at h; simp; omega
                have HF := Lib.hid hF
                have HT := Lib.hid hT
                clear hF hT
                have hO : (allOut isDoc tx && !decide ((putPiOut lo tx).2 = 7) && !Lib.contains tx [13]) = own := HOWN.out
                generalize (!decide ((putPiOut lo tx).2 = 7)) = d at *
                unfold out2V at C1
                generalize putPiOut lo tx = c at *
                obtain ⟨c1, c2⟩ := c
                go_wp2_with fail
                refine C1.out.mono ?_
                rintro e w2 ⟨rfl, hb2⟩
                have HB2 := Lib.hid (HBW.out.trans (hb2.mono HBW.out.size))
                have J3 := Lib.hid (J2.out.kept hb2)
                clear hb2 z4
                have z4 := cell_of 4 J3.out.2
                have C2 := Lib.hid (HM.out tx w2 HB2.out (by have := HTX.out; omega))

                have HO2 := Lib.hid hO
                clear hO HOWN HM
                generalize allOut isDoc tx = q at *
                go_wp2_with fail
                refine C2.out.mono ?_
                rintro e w3 ⟨rfl, hb3⟩
                have HB3 := Lib.hid (HB2.out.trans (hb3.mono HB2.out.size))
                have J4 := Lib.hid (J3.out.kept hb3)
                clear hb3 z4
                have z4 := cell_of 4 J4.out.2
                have C4 := Lib.hid (contains_c tx [13] w3 (HW.out _ HB3.out).put.maxl (by have := HTX.out; omega))
                generalize Lib.contains tx [13] = ct at *
                cases q with
                | false =>
                  go_wp2
                  go_ret
                  exact ⟨by rw [HA2.out, ← HO2.out]; rfl, HB3.out⟩
                | true =>
                  cases d with
                  | false =>
                    have hdd : ((c2 : Int) != 7) = false := HF.out rfl
                    go_wp2
                    go_ret
                    exact ⟨by rw [HA2.out, ← HO2.out]; rfl, HB3.out⟩
                  | true =>
                    have hdd : ((c2 : Int) != 7) = true := HT.out rfl
                    go_wp2_with fail
                    refine C4.out.mono ?_
                    rintro e w4 ⟨rfl, rfl⟩
                    go_wp2
                    go_ret
                    exact ⟨by rw [HA2.out, ← HO2.out]; rfl, HB3.out⟩
              · have e3 : (k == 3) = false := by simpa using h3
                have e4 : (k == 4) = false := by simpa using h4
                have e5 : (k == 5) = false := by simpa using h5
                have hO : (allOut isDoc tx && !Lib.contains tx [13]) = own := by
                  have := HOWN.out
                  rw [ownB, if_neg h3, if_neg h5, if_neg h4] at this
                  exact this
                clear h3 h4 h5
                have C2 := Lib.hid (HM.out tx wr HBW.out (by have := HTX.out; omega))

                have HO2 := Lib.hid hO
                clear hO HOWN HM
                generalize allOut isDoc tx = q at *
                go_wp2_with fail
                refine C2.out.mono ?_
                rintro e w3 ⟨rfl, hb3⟩
                have HB3 := Lib.hid (HBW.out.trans (hb3.mono HBW.out.size))
                have J4 := Lib.hid (J2.out.kept hb3)
                clear hb3 z4
                have z4 := cell_of 4 J4.out.2
                have C4 := Lib.hid (contains_c tx [13] w3 (HW.out _ HB3.out).put.maxl (by have := HTX.out; omega))
                generalize Lib.contains tx [13] = ct at *
                cases q with
                | false =>
                  go_wp2
                  go_ret
                  exact ⟨by rw [HA2.out, ← HO2.out]; rfl, HB3.out⟩
                | true =>
                  go_wp2_with fail
                  refine C4.out.mono ?_
                  rintro e w4 ⟨rfl, rfl⟩
                  go_wp2
                  go_ret
                  exact ⟨by rw [HA2.out, ← HO2.out]; rfl, HB3.out⟩
end Go.Proofs.YtocbofeanfdggaaDoor
