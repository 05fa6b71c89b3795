/- Texts of ours, joined: CkC, CnM, CkK, Laid, Laid3. -/
import Derived.Test.YthihkbcdihochaaGreatDoorRows
import Derived.WalkKit
import Derived.ProofKit
import Derived.OpenShut
import Derived.ShutString
import Derived.ChangeOld
import Derived.Below
import Derived.BigQuiet
import Derived.Deep.QuietTactic
import Derived.Lib.Hide
import Derived.Deep.RegionHeld3
import Derived.Lib.SlBytesConst
import Derived.Laws.CopyOwn
import Derived.Laws.CopyRow
import Derived.Lib.Bytes
import Derived.Deep.LoopGhost
import Derived.Deep.DeepFit
import Derived.Deep.DeepMust
import Derived.WalkSpells
import Derived.WalkLawsBesides
import Derived.Maps.OwnOps
import Derived.Maps.OwnSet
import Derived.Maps.Views
import Derived.Laws.EntriesVeiled
import Derived.Laws.Rows
import Derived.Maps.AppendAt
import Derived.Lib.SmallJoins
import Derived.Deep.AppendLies
import Derived.DeepKeys4
import Derived.MapViews
import Derived.Maps.Keyed
import Derived.WideKeyEntry
import Derived.Deep.RegionWith
import Derived.Test.YthihkbcdihochaaGreatDoorC1
import Derived.Test.YthihkbcdihochaaGreatDoorC4
import Derived.Test.YthihkbcdihochaaGreatDoorC2
import Derived.Test.YthihkbcdihochaaGreatDoorC3
import Derived.Test.YthihkbcdihochaaGreatDoorC5
import Derived.Test.YthihkbcdihochaaGreatDoorC10
import Derived.Test.YthihkbcdihochaaGreatDoorC11
import Derived.Test.YthihkbcdihochaaGreatDoorC12
import Derived.Test.YthihkbcdihochaaGreatDoorC13
import Derived.Test.YthihkbcdihochaaGreatDoorC6
import Derived.Carry
import Derived.Lib.ItoaNum
import Derived.Lib.AppendIntMem
import Derived.Test.YthihkbcdihochaaGreatDoorC7
import Derived.Test.YthihkbcdihochaaGreatDoorC8
import Derived.Test.YthihkbcdihochaaGreatDoorC9
import Derived.Deep.RegionLaw
import Derived.Lib.IndexAny
import Derived.Lib.LaidCaseMet
import Derived.Deep.DeepLaidRun
/- check.One, next, Check, Right. -/
namespace Go.Proofs.YthihkbcdihochaaGreatDoor
open Go.ChangeShapes Go.WideShapes Go.ChangeAt Go.RowKit
set_option linter.unusedVariables false
theorem names_le {b : Nat} {v : EvV} (h : EvLe b v) : ∀ x ∈ namesE v.e, x.1.length ≤ b ∧ x.2.length ≤ b := by
  intro x hx
  have ha : ∀ x ∈ namesA v.e.ats, x.1.length ≤ b ∧ x.2.length ≤ b := fun x hx => by
    obtain ⟨a, ha, rfl⟩ := List.mem_map.1 hx
    exact ⟨(h.ats a ha).1, (h.ats a ha).2.1⟩
  unfold namesE at hx
  split at hx
  · exact ha x hx
  · rcases List.mem_cons.1 hx with rfl | hx
    · exact ⟨h.sp, h.lo⟩
    · exact ha x hx
theorem rule_one (e : EvT) : ruleFrom (partsB e) (namedB (namesE e)) (textsB e) (shortB (namesE e)) (spacedB e) 0 = oneE e := rfl
/-- check.One, of an event whose parts are short. -/
theorem ckOne5_c (k : Int) (sp lo tx : List UInt8) (A : Option Addr) (n cap : Nat) (ats : List (List UInt8 × List UInt8 × List UInt8)) (w : World) (h : RRd cA 3 w w.heap.size A n cap ats) (hle : EvLe 5000 ⟨⟨k, sp, lo, ats, tx⟩, A, n, cap⟩) (hW : WC w) :
    Calls Tryz.prog 155 #[.agg #[.int .i64 k, .string ⟨sp.toArray⟩, .string ⟨lo.toArray⟩, .slice A n cap, .string ⟨tx.toArray⟩]] w fun e w' => e = .returned (.int .i64 (oneE ⟨k, sp, lo, ats, tx⟩ : Nat)) ∧ Below w.heap.size w w' := by
  rw [← rule_one]
  have hn : n ≤ 5000 := hle.n
  have hnm := names_le hle
  have hup : ∀ W, Below w.heap.size w W → RRd cA 3 W W.heap.size A n cap ats := fun W hb => (h.below hb).more hb.size
  refine ckOne_c k sp lo tx A n cap _ _ _ _ _ w (fun W hb => parts_c k sp lo tx A n cap ats W h.len) (fun W hb => ?_) (fun W hb => ?_) (fun W hb => ?_) (fun W hb => ?_)
  · exact named_c k sp lo tx A n cap ats W (hup W hb) (by omega) (hW.below hb).tabs (hW.below hb).put.forms fun x hx => by have := (hnm x hx).2; omega
  · exact texts_c k sp lo tx A n cap ats W (hup W hb) (by omega) (hW.below hb) hle.tx hle.lo (fun x hx => by have := (hnm x hx).1; omega) (fun x hx => by have := (hle.ats x hx).2.2; omega)
  · exact short_c k sp lo tx A n cap ats W (hup W hb) (by omega)
  · exact spaced_c k sp lo tx A n cap ats W (hup W hb) (by omega) fun a ha => by
      have h1 := (hle.ats a ha).1
      have h2 := (hle.ats a ha).2.1
      exact ⟨by show a.1.length ≤ 1000000; omega, by show a.2.1.length ≤ 1000000; omega⟩
theorem next_c (sb base : Nat) (sv : Value) (op : List (List UInt8 × List UInt8)) (root text : Bool) (k : Int) (sp lo tx : List UInt8) (A : Option Addr) (n cap : Nat) (ats : List (List UInt8 × List UInt8 × List UInt8)) (W : World) (hq : W.heap[sb]? = some (.cells #[sv, .bool root, .bool text] 238)) (ho : OwnN W base sv op) (hsb : sb < base) (hbW : base ≤ W.heap.size) (hop : op.length ≤ 1000000) :
    Calls Tryz.prog 156 #[.pointer (some ⟨sb, 0, none⟩), .agg #[.int .i64 k, .string ⟨sp.toArray⟩, .string ⟨lo.toArray⟩, .slice A n cap, .string ⟨tx.toArray⟩]] W (NextPost sb base W (nextE op root text ⟨k, sp, lo, ats, tx⟩)) := by
  unfold nextE
  by_cases h1 : k = 1
  · subst h1
    rw [if_pos rfl]
    cases hr : (op.isEmpty && root) with
    | true => exact next1a sb base sv op root text 1 sp lo tx A n cap W hq ho hsb hbW hop hr
    | false => exact next1b sb base sv op root text 1 sp lo tx A n cap W hq ho hsb hbW hop hr
  · rw [if_neg h1]
    by_cases h2 : k = 2
    · subst h2
      rw [if_pos rfl]
      rcases List.eq_nil_or_concat op with rfl | ⟨op2, s, rfl⟩
      · exact next2a sb base sv [] root text 2 sp lo tx A n cap W hq ho hsb hbW hop rfl
      · rw [List.concat_eq_append] at *
        have hop2 : op2.length ≤ 1000000 := by rw [List.length_append] at hop; omega
        by_cases hs : s = (sp, lo)
        · subst hs
          rw [if_pos (by simp), List.dropLast_concat]
          exact next2b sb base sv op2 root text 2 sp lo tx A n cap W hq ho hsb hbW hop2
        · rw [if_neg (by simpa using hs)]
          exact next2c sb base sv op2 s root text 2 sp lo tx A n cap W hq ho hsb hbW hop2 hs
    · rw [if_neg h2]
      by_cases h3 : k = 3
      · subst h3
        rw [if_pos rfl]
        by_cases he : op = []
        · rw [if_pos (by rw [he]; rfl)]
          exact next3a sb base sv op root text 3 sp lo tx A n cap W hq ho hsb hbW hop he
        · have hne : op.isEmpty = false := by simpa using he
          cases text with
          | true =>
            rw [if_pos (by simp)]
            exact next3b sb base sv op root true 3 sp lo tx A n cap W hq ho hsb hbW hop he rfl
          | false =>
            rw [if_neg (by rw [hne]; simp)]
            exact next3c sb base sv op root false 3 sp lo tx A n cap W hq ho hsb hbW hop he rfl
      · rw [if_neg h3]
        exact next9 sb base sv op root text k sp lo tx A n cap W hq ho hsb hbW hop h1 h2 h3
theorem next_len {op op' : List (List UInt8 × List UInt8)} {root text root' text' : Bool} {e : EvT} (h : nextE op root text e = some (op', root', text')) : op'.length ≤ op.length + 1 := by
  unfold nextE at h
  repeat' split at h
  all_goals first
    | (cases h; done)
    | (cases h; simp; done)
    | (cases h; simp; omega)
set_option maxRecDepth 100000 in
set_option maxHeartbeats 8000000 in
theorem check_c (A : Option Addr) (n cap : Nat) (vs : List EvV) (w : World) (h : ERd w w.heap.size A n cap vs) (hm : n ≤ 100) (hle : ∀ v ∈ vs, EvLe 5000 v) (hW : WC w) :
    Calls Tryz.prog 108 #[.slice A n cap] w fun e w' => e = .returned (.tuple #[.int .i64 ((checkE (vs.map EvV.e)).1 : Nat), .int .i64 ((checkE (vs.map EvV.e)).2 : Nat)]) ∧ Below w.heap.size w w' := by
  have HP : Hid (∀ W, Below w.heap.size w W → ERd W W.heap.size A n cap vs) := Lib.hid fun W hb => (h.below hb).more hb.size
  have HLN : Hid (vs.length = n) := Lib.hid h.row.len
  have HW : Hid (∀ W, Below w.heap.size w W → WC W) := Lib.hid fun W hb => hW.below hb
  have HE := Lib.hid hle
  obtain ⟨R1, R2, hR⟩ : ∃ a b, checkE (vs.map EvV.e) = (a, b) := ⟨_, _, rfl⟩
  rw [hR]
  have HR0 : Hid ((R1, R2) = checkR [] false false ((vs.drop 0).map EvV.e) 0) := Lib.hid hR.symm
  have J0 := Lib.hid (CJ.start 238 w #[.slice none 0 0, .bool false, .bool false])
  have HSZ : Hid (w.heap.size + 1 ≤ (w.alloc (.cells #[.slice none 0 0, .bool false, .bool false] 238)).heap.size) := Lib.hid (by simp)
  clear h hle hW hR
  go_enter Tryz.func108, Tryz.ntmps108
  go_wp2
  go_loopg [12] (n) (fun g i wr => ∃ (t : Nat) (op : List (List UInt8 × List UInt8)) (root text : Bool) (sv : Value), i = .int .i64 (t : Int) ∧ t ≤ n ∧ Hid (g + t = n) ∧ Hid ((R1, R2) = checkR op root text ((vs.drop t).map EvV.e) t) ∧ Hid (Below w.heap.size w wr) ∧ Hid (wr.heap[w.heap.size]? = some (.cells #[sv, .bool root, .bool text] 238)) ∧ Hid (OwnN wr (w.heap.size + 1) sv op) ∧ Hid (op.length ≤ t) ∧ Hid (w.heap.size + 1 ≤ wr.heap.size))
  case atStart => exact ⟨0, [], false, false, _, rfl, Nat.zero_le _, Lib.hid rfl, HR0, Lib.hid J0.out.1, Lib.hid J0.out.2, Lib.hid (OwnN.start _ _), Lib.hid (Nat.zero_le _), HSZ⟩
  case round =>
    obtain ⟨t, op, root, text, sv, rfl, ht, hg, HA, HB, HQ, HO, HOL, HS⟩ := hrel
    have ht0 : (0 : Int) ≤ (t : Int) := by omega
    have ht9 : (t : Int) ≤ 100 := by omega
    clear HR0 J0 HSZ
    by_cases htn : t < n
    · have hti : (t : Int) < (n : Int) := by omega
      obtain ⟨b1, o1, x, rfl, hb1, hx, hc1⟩ := (HP.out _ HB.out).row.cell htn
      have hmem := List.mem_of_getElem? hx
      have hex := HE.out x hmem
      have hrx := (HP.out _ HB.out).ats x hmem
      have hdr : vs.drop t = x :: vs.drop (t + 1) := by
        have hl := (List.getElem?_eq_some_iff.1 hx).1
        have he : vs[t] = x := by rw [List.getElem?_eq_getElem hl] at hx; exact Option.some.inj hx
        rw [List.drop_eq_getElem_cons hl, he]
      have hA := HA.out
      rw [hdr, List.map_cons, checkR] at hA
      obtain ⟨⟨k, sp, lo, ats, tx⟩, XA, xn, xc⟩ := x
      have y0 : wr.cell? ⟨b1, o1 + t * 5, none⟩ = some (.int .i64 k) := by rw [show o1 + t * 5 = o1 + (t * 5 + 0) by omega]; exact hc1 0 _ rfl
      have y1 : wr.cell? ⟨b1, o1 + t * 5 + 1, none⟩ = some (.string ⟨sp.toArray⟩) := by rw [show o1 + t * 5 + 1 = o1 + (t * 5 + 1) by omega]; exact hc1 1 _ rfl
      have y2 : wr.cell? ⟨b1, o1 + t * 5 + 2, none⟩ = some (.string ⟨lo.toArray⟩) := by rw [show o1 + t * 5 + 2 = o1 + (t * 5 + 2) by omega]; exact hc1 2 _ rfl
      have y3 : wr.cell? ⟨b1, o1 + t * 5 + 3, none⟩ = some (.slice XA xn xc) := by rw [show o1 + t * 5 + 3 = o1 + (t * 5 + 3) by omega]; exact hc1 3 _ rfl
      have y4 : wr.cell? ⟨b1, o1 + t * 5 + 4, none⟩ = some (.string ⟨tx.toArray⟩) := by rw [show o1 + t * 5 + 4 = o1 + (t * 5 + 4) by omega]; exact hc1 4 _ rfl
      have ka := (Below.refl wr.heap.size wr).alloc (Nat.le_refl _) (.cells #[.int .i64 k, .string ⟨sp.toArray⟩, .string ⟨lo.toArray⟩, .slice XA xn xc, .string ⟨tx.toArray⟩] 41)
      have JE := Lib.hid (CJ.start 41 wr #[.int .i64 k, .string ⟨sp.toArray⟩, .string ⟨lo.toArray⟩, .slice XA xn xc, .string ⟨tx.toArray⟩])
      have C1 := Lib.hid (ckOne5_c k sp lo tx XA xn xc ats _ (hrx.up ka) hex (HW.out _ (HB.out.trans (ka.mono HB.out.size))))
      have HA2 := Lib.hid hA
      have HKA := Lib.hid ka
      have hnx : ∀ W, Below wr.heap.size wr W → Calls Tryz.prog 156 #[.pointer (some ⟨w.heap.size, 0, none⟩), .agg #[.int .i64 k, .string ⟨sp.toArray⟩, .string ⟨lo.toArray⟩, .slice XA xn xc, .string ⟨tx.toArray⟩]] W (NextPost w.heap.size (w.heap.size + 1) W (nextE op root text ⟨k, sp, lo, ats, tx⟩)) := fun W hb =>
        next_c w.heap.size (w.heap.size + 1) sv op root text k sp lo tx XA xn xc ats W (by rw [hb.block _ (by have := HS.out; omega)]; exact HQ.out) (HO.out.kept hb) (Nat.lt_succ_self _) (by have := HS.out; have := hb.size; omega) (by have := HOL.out; omega)
      have HNX := Lib.hid hnx
      clear hb1 hx hc1 hdr hA HA hmem hex hrx ka hnx
      simp only at HA2
      obtain ⟨er, her⟩ : ∃ q, oneE ⟨k, sp, lo, ats, tx⟩ = q := ⟨_, rfl⟩
      obtain ⟨nx, hnx⟩ : ∃ q, nextE op root text ⟨k, sp, lo, ats, tx⟩ = q := ⟨_, rfl⟩
      have HNL : Hid (∀ op' root' text', nx = some (op', root', text') → op'.length ≤ op.length + 1) := Lib.hid fun op' root' text' e => next_len (hnx.trans e)
      rw [her] at C1 HA2
      rw [hnx] at HNX HA2
      clear her hnx
      go_wp2_with fail
      refine C1.out.mono ?_
      rintro e w2 ⟨rfl, hb2⟩
      have JE2 := Lib.hid (JE.out.kept hb2)
      have HB2 := Lib.hid (HKA.out.trans (hb2.mono HKA.out.size))
      have v0 := cell_of 0 JE2.out.2
      have v1 := cell_of 1 JE2.out.2
      have v2 := cell_of 2 JE2.out.2
      have v3 := cell_of 3 JE2.out.2
      have v4 := cell_of 4 JE2.out.2
      have HBW := Lib.hid (HB.out.trans (HB2.out.mono HB.out.size))
      have C2 := Lib.hid (HNX.out w2 HB2.out)
      clear hb2 JE C1 y0 y1 y2 y3 y4 HNX
      by_cases h0 : er = 0
      · subst h0
        have HA3 := Lib.hid (HA2.out.trans (if_neg (by simp)))
        clear HA2
        go_wp2_with fail
        refine C2.out.mono ?_
        rintro e w3 ⟨hb3, hno, hyes⟩
        have HB3 := Lib.hid (HBW.out.trans hb3)
        cases nx with
        | none =>
          obtain rfl := hno rfl
          have HA4 := Lib.hid HA3.out
          clear hno hyes hb3 HA3
          simp only at HA4
          go_wp2
          go_ret2
          have he := HA4.out
          cases he
          exact ⟨rfl, HB3.out⟩
        | some r =>
          obtain ⟨op', root', text'⟩ := r
          obtain ⟨rfl, sv', hq', ho'⟩ := hyes op' root' text' rfl
          have HQ' := Lib.hid hq'
          have HO' := Lib.hid ho'
          have HS' : Hid (w.heap.size + 1 ≤ w3.heap.size) := Lib.hid (by have := HS.out; have := HB2.out.size; have := hb3.size; omega)
          have HL' := Lib.hid (HNL.out op' root' text' rfl)
          have HA4 := Lib.hid HA3.out
          clear hno hyes hb3 HA3 hq' ho'
          simp only at HA4
          go_wp2
          go_roundg (n - (t + 1))
          case measure => have := hg.out; omega
          case rel => exact ⟨t + 1, op', root', text', sv', by go_num, by omega, Lib.hid (by have := hg.out; omega), HA4, HB3, HQ', HO', Lib.hid (by have := HL'.out; have := HOL.out; omega), HS'⟩
      · have hne : ((er : Int) != 0) = true := by simp; omega
        have HA3 := Lib.hid (HA2.out.trans (if_pos (by simpa using h0)))
        clear HA2 h0
        go_wp2
        go_ret2
        have he := HA3.out
        cases he
        exact ⟨rfl, HBW.out⟩
    · have hti : ¬ (t : Int) < (n : Int) := by omega
      have hA := HA.out
      rw [List.drop_of_length_le (by rw [HLN.out]; omega), List.map_nil, checkR] at hA
      have HA2 := Lib.hid hA
      obtain ⟨A9, c9, rfl⟩ := HO.out.form
      have x0 := cell_of 0 HQ.out
      have x1 := cell_of 1 HQ.out
      obtain rfl : t = n := by omega
      clear hA HA HO
      cases op with
      | nil =>
        cases root
        all_goals
          go_wp2
          go_ret2
          have he := HA2.out
          cases he
          exact ⟨rfl, HB.out⟩
      | cons a tl =>
        have hp : (0 : Int) < (((a :: tl).length : Nat) : Int) := by simp only [List.length_cons]; omega
        have HA3 : Hid ((R1, R2) = (t, 7)) := Lib.hid (by rw [HA2.out]; rfl)
        clear HA2 HOL
        generalize (a :: tl).length = m at *
        go_wp2
        go_ret2
        have he := HA3.out
        cases he
        exact ⟨rfl, HB.out⟩
end Go.Proofs.YthihkbcdihochaaGreatDoor
/- canon.Put at the page example. -/
namespace Go.Proofs.YthihkbcdihochaaGreatDoor
open Go.ChangeShapes Go.WideShapes Go.ChangeAt Go.RowKit
set_option linter.unusedVariables false
def exA : List (List UInt8 × List UInt8 × List UInt8) := [([118], [98], [49])]
/-- The two events of the page's example. -/
def exV (S : Nat) : EvV := ⟨⟨1, [117], [97], exA, []⟩, some ⟨S, 0, none⟩, 1, 1⟩
def exW : EvV := ⟨⟨2, [117], [97], [], []⟩, none, 0, 0⟩
def exO (t : Nat) : List (List UInt8) := if t = 1 then [[117]] else []
def exS : List UInt8 := [60, 97, 32, 120, 109, 108, 110, 115, 61, 34, 117, 34, 32, 120, 109, 108, 110, 115, 58, 110, 48, 61, 34, 118, 34, 32, 110, 48, 58, 98, 61, 34, 49, 34, 62]
def exT (t : Nat) : List UInt8 := if t = 0 then [] else if t = 1 then exS else exS ++ [60, 47, 97, 62]
theorem ex_1 : cnOne ⟨1, [117], [97], exA, []⟩ [] = (exS, [117]) := by decide +kernel
theorem ex_2 : cnOne ⟨2, [117], [97], [], []⟩ [117] = ([60, 47, 97, 62], [117]) := by decide +kernel
theorem ex_check (S : Nat) : checkE ([exV S, exW].map EvV.e) = (2, 0) := by
  show checkE [⟨1, [117], [97], exA, []⟩, ⟨2, [117], [97], [], []⟩] = (2, 0)
  decide +kernel
theorem exV_le (S : Nat) : EvLe 100 (exV S) := ⟨by simp [exV], by simp [exV], by simp [exV], by simp [exV], fun a ha => by
  simp only [exV, exA, List.mem_singleton] at ha
  subst ha
  simp⟩
theorem exW_le : EvLe 100 exW := ⟨by simp [exW], by simp [exW], by simp [exW], by simp [exW], fun a ha => by cases ha⟩
/-- While canon.Put writes the example. -/
def PtJ (S b t : Nat) (w W : World) : Prop := Below S w W ∧ Bld (b + 1) b (exT t) W ∧ (t < 2 → RowB (b + 1) (exO t) W) ∧ b + 2 ≤ W.heap.size ∧ S ≤ b
theorem PtJ.kept {S b t : Nat} {w W W' : World} (h : PtJ S b t w W) (hb : Below W.heap.size W W') : PtJ S b t w W' := by
  have h4 := h.2.2.2
  exact ⟨h.1.trans (hb.mono (by omega)), h.2.1.kept hb, fun ht => (h.2.2.1 ht).kept hb, Nat.le_trans h4.1 hb.size, h4.2⟩
def PtH (S b t q : Nat) (cs : Array Value) (w W : World) : Prop := PtJ S b t w W ∧ W.heap[q]? = some (.cells cs 41 (0, 0))
theorem PtH.kept {S b t q : Nat} {cs : Array Value} {w W W' : World} (h : PtH S b t q cs w W) (hb : Below W.heap.size W W') : PtH S b t q cs w W' := ⟨h.1.kept hb, (hb.block _ (lt_of h.2)).trans h.2⟩
theorem PtH.drew {S b t q : Nat} {cs : Array Value} {w W : World} (h : PtH S b t q cs w W) : PtH S b t q cs w W.drew := ⟨⟨h.1.1.drew, h.1.2.1, h.1.2.2.1, h.1.2.2.2⟩, h.2⟩
set_option maxRecDepth 100000 in
set_option maxHeartbeats 8000000 in
theorem cnPut_ex (b0 : Nat) (S : Nat) (w : World) (hS : S = w.heap.size) (h : ERd w S (some ⟨b0, 0, none⟩) 2 2 [exV (S - 2), exW]) (hS2 : 2 ≤ S) (hW : WC w) (hp : Lib.TabIs Tryz.prog w "internal/strconv.uint64pow10" .u64 Lib.pow10Tab) :
    Calls Tryz.prog 49 #[.slice (some ⟨b0, 0, none⟩) 2 2] w fun e w' => e = .returned (.tuple #[.string ⟨(exT 2).toArray⟩, .int .i64 0]) ∧ Below w.heap.size w w' := by
  have HE : Hid (∀ W, Below S w W → ERd W S (some ⟨b0, 0, none⟩) 2 2 [exV (S - 2), exW]) := Lib.hid fun W hb => h.below hb
  have HTB : Hid (∀ W, Below w.heap.size w W → Lib.TabIs Tryz.prog W "internal/strconv.uint64pow10" .u64 Lib.pow10Tab) := Lib.hid fun W hb => TabIs_below41 hp hb
  have C1 : Hid (Calls Tryz.prog 108 #[.slice (some ⟨b0, 0, none⟩) 2 2] w fun e w' => e = .returned (.tuple #[.int .i64 2, .int .i64 0]) ∧ Below w.heap.size w w') := Lib.hid (by
    have := check_c _ 2 2 _ w (h.more (by omega)) (by omega) (fun v hv => by
      simp only [List.mem_cons, List.not_mem_nil, or_false] at hv
      rcases hv with rfl | rfl
      · exact (exV_le _).mono (by omega)
      · exact exW_le.mono (by omega)) hW
    rw [ex_check] at this
    exact this)
  have C2 : Hid (∀ W, Below w.heap.size w W → Calls Tryz.prog 109 #[.slice (some ⟨b0, 0, none⟩) 2 2, .func (.func 110) #[] #[]] W fun e w' => e = .returned (.bool false) ∧ Below W.heap.size W w') := Lib.hid fun W hb => by
    refine evContains_no 110 _ 2 2 [exV (S - 2), exW] W ((HE.out W (by rw [hS]; exact hb)).row.more (by rw [hS]; exact hb.size)) (by omega) (enters_of Tryz.func110 (by kernel_rfl) rfl) fun x hx W2 hb2 => ?_
    have hb3 : Below w.heap.size w W2 := hb.trans (hb2.mono hb.size)
    have hr := (HE.out W2 (by rw [hS]; exact hb3)).ats x hx
    have hlx : EvLe 100 ⟨⟨x.e.kind, x.e.sp, x.e.lo, x.e.ats, x.e.tx⟩, x.A, x.n, x.c⟩ := by
      simp only [List.mem_cons, List.not_mem_nil, or_false] at hx
      rcases hx with rfl | rfl
      · exact exV_le _
      · exact exW_le
    refine cnLong_c x.e.kind x.e.sp x.e.lo x.e.tx x.A x.n x.c x.e.ats W2 (hr.more (by rw [hS]; exact hb3.size)) hlx ?_ ?_ (HTB.out W2 hb3)
    · simp only [List.mem_cons, List.not_mem_nil, or_false] at hx
      rcases hx with rfl | rfl <;> simp [exV, exW]
    · simp only [List.mem_cons, List.not_mem_nil, or_false] at hx
      rcases hx with rfl | rfl <;> simp [exV, exW]
  have CO1 : Hid (∀ W, Below S w W → S ≤ W.heap.size → Calls Tryz.prog 17 #[.agg #[.int .i64 1, .string ⟨#[117]⟩, .string ⟨#[97]⟩, .slice (some ⟨S - 2, 0, none⟩) 1 1, .string ⟨#[]⟩], .string ⟨#[]⟩] W fun e w' => e = .returned (.tuple #[.string ⟨exS.toArray⟩, .string ⟨#[117]⟩]) ∧ Below W.heap.size W w') := Lib.hid fun W hb hsz => by
    have := cnOne_c 1 [117] [97] [] [] (some ⟨S - 2, 0, none⟩) 1 1 exA W (((HE.out W hb).ats (exV (S - 2)) (by simp)).more hsz) ((exV_le (S - 2)).mono (by omega)) (by simp) (HTB.out W (by rw [← hS]; exact hb))
    rw [ex_1] at this
    exact this
  have CO2 : Hid (∀ W, Below S w W → S ≤ W.heap.size → Calls Tryz.prog 17 #[.agg #[.int .i64 2, .string ⟨#[117]⟩, .string ⟨#[97]⟩, .slice none 0 0, .string ⟨#[]⟩], .string ⟨#[117]⟩] W fun e w' => e = .returned (.tuple #[.string ⟨#[60, 47, 97, 62]⟩, .string ⟨#[117]⟩]) ∧ Below W.heap.size W w') := Lib.hid fun W hb hsz => by
    have := cnOne_c 2 [117] [97] [] [117] none 0 0 [] W (RRd.nilR cA 3 W _) (exW_le.mono (by omega)) (by simp) (HTB.out W (by rw [← hS]; exact hb))
    rw [ex_2] at this
    exact this
  have HSS := Lib.hid hS
  clear h hW hp hS
  go_enter Tryz.func49, Tryz.ntmps49
  go_wp2_with fail
  refine C1.out.mono ?_
  rintro e w1 ⟨rfl, hb⟩
  have B1 := Lib.hid hb
  have C3 := Lib.hid (C2.out w1 hb)
  clear hb C1 C2
  go_wp2_with fail
  refine C3.out.mono ?_
  rintro e w2 ⟨rfl, hb⟩
  have B2 : Hid (Below S w w2) := Lib.hid (by rw [HSS.out]; exact B1.out.trans (hb.mono B1.out.size))
  clear hb C3 B1
  have hb2 : S ≤ w2.heap.size := by rw [HSS.out]; exact B2.out.size
  obtain ⟨b, hbb⟩ : ∃ b, w2.heap.size = b := ⟨_, rfl⟩
  have P0 : Hid (PtJ S b 0 w ((w2.alloc (.cells #[.pointer none, .slice none 0 0] 100)).alloc (.cells #[.slice none 0 0] 197))) := Lib.hid (by
    have hbl := Bld.fresh (b + 1) w2 (by omega)
    rw [hbb] at hbl
    refine ⟨(B2.out.alloc (by omega) _).alloc (by simp; omega) _, hbl.alloc _, fun _ => ⟨.slice none 0 0, ?_, OwnS.start _ _⟩, by simp; omega, by omega⟩
    have := hp_new (w2.alloc (.cells #[.pointer none, .slice none 0 0] 100)) (.cells #[.slice none 0 0] 197)
    rw [World.size_alloc, hbb] at this
    exact this)
  go_wp2_with fail
  go_loopg [26] (2) (fun g i wr => ∃ t : Nat, i = .int .i64 (t : Int) ∧ t ≤ 2 ∧ Hid (g + t = 2) ∧ Hid (PtJ S b t w wr))
  case atStart => exact ⟨0, rfl, by omega, Lib.hid rfl, P0⟩
  case round =>
    clear P0
    obtain ⟨t, rfl, ht, hg, HJ⟩ := hrel
    rcases (show t = 0 ∨ t = 1 ∨ t = 2 by omega) with rfl | rfl | rfl
    · clear B2
      obtain ⟨b1, o1, x, hA, hb1, hx, hc1⟩ := (HE.out wr HJ.out.1).row.cell (i := 0) (by omega)
      cases hA
      have hx2 : x = exV (S - 2) := by simpa using hx.symm
      subst hx2
      have y0 : wr.cell? ⟨b0, 0, none⟩ = some (.int .i64 1) := hc1 0 _ rfl
      have y1 : wr.cell? ⟨b0, 1, none⟩ = some (.string ⟨#[117]⟩) := hc1 1 _ rfl
      have y2 : wr.cell? ⟨b0, 2, none⟩ = some (.string ⟨#[97]⟩) := hc1 2 _ rfl
      have y3 : wr.cell? ⟨b0, 3, none⟩ = some (.slice (some ⟨S - 2, 0, none⟩) 1 1) := hc1 3 _ rfl
      have y4 : wr.cell? ⟨b0, 4, none⟩ = some (.string ⟨#[]⟩) := hc1 4 _ rfl
      clear hb1 hx hc1
      have hsz : b + 2 ≤ wr.heap.size := HJ.out.2.2.2.1
      have hJ : Hid (PtH S b 0 wr.heap.size #[.int .i64 1, .string ⟨#[117]⟩, .string ⟨#[97]⟩, .slice (some ⟨S - 2, 0, none⟩) 1 1, .string ⟨#[]⟩] w (wr.alloc (.cells #[.int .i64 1, .string ⟨#[117]⟩, .string ⟨#[97]⟩, .slice (some ⟨S - 2, 0, none⟩) 1 1, .string ⟨#[]⟩] 41)).drew) := Lib.hid (PtH.drew ⟨HJ.out.kept ((Below.refl _ wr).alloc (Nat.le_refl _) _), hp_new wr _⟩)
      have at4 : ∀ w', Hid (PtH S b 0 wr.heap.size #[.int .i64 1, .string ⟨#[117]⟩, .string ⟨#[97]⟩, .slice (some ⟨S - 2, 0, none⟩) 1 1, .string ⟨#[]⟩] w w') → w'.cell? ⟨wr.heap.size, 0, none⟩ = some (.int .i64 1) ∧ w'.cell? ⟨wr.heap.size, 1, none⟩ = some (.string ⟨#[117]⟩) ∧ w'.cell? ⟨wr.heap.size, 2, none⟩ = some (.string ⟨#[97]⟩) ∧ w'.cell? ⟨wr.heap.size, 3, none⟩ = some (.slice (some ⟨S - 2, 0, none⟩) 1 1) ∧ w'.cell? ⟨wr.heap.size, 4, none⟩ = some (.string ⟨#[]⟩) := fun w' h => ⟨cell_of 0 h.out.2, cell_of 1 h.out.2, cell_of 2 h.out.2, cell_of 3 h.out.2, cell_of 4 h.out.2⟩
      have PT : Hid (∀ w1, Hid (PtH S b 0 wr.heap.size #[.int .i64 1, .string ⟨#[117]⟩, .string ⟨#[97]⟩, .slice (some ⟨S - 2, 0, none⟩) 1 1, .string ⟨#[]⟩] w w1) → Calls Tryz.prog 111 #[.pointer (some ⟨b + 1, 0, none⟩)] w1 fun e w' => e = .returned (.string ⟨#[]⟩) ∧ (w'.cell? ⟨wr.heap.size, 0, none⟩ = some (.int .i64 1) ∧ w'.cell? ⟨wr.heap.size, 1, none⟩ = some (.string ⟨#[117]⟩) ∧ w'.cell? ⟨wr.heap.size, 2, none⟩ = some (.string ⟨#[97]⟩) ∧ w'.cell? ⟨wr.heap.size, 3, none⟩ = some (.slice (some ⟨S - 2, 0, none⟩) 1 1) ∧ w'.cell? ⟨wr.heap.size, 4, none⟩ = some (.string ⟨#[]⟩)) ∧ Hid (PtH S b 0 wr.heap.size #[.int .i64 1, .string ⟨#[117]⟩, .string ⟨#[97]⟩, .slice (some ⟨S - 2, 0, none⟩) 1 1, .string ⟨#[]⟩] w w')) := Lib.hid fun w1 h => (cnTop_no (b + 1) w1 (h.out.1.2.2.1 (by omega))).mono fun e w' ⟨he, hb⟩ => ⟨he, at4 w' (Lib.hid (h.out.kept hb)), Lib.hid (h.out.kept hb)⟩
      have PO : Hid (∀ w1, Hid (PtH S b 0 wr.heap.size #[.int .i64 1, .string ⟨#[117]⟩, .string ⟨#[97]⟩, .slice (some ⟨S - 2, 0, none⟩) 1 1, .string ⟨#[]⟩] w w1) → Calls Tryz.prog 17 #[.agg #[.int .i64 1, .string ⟨#[117]⟩, .string ⟨#[97]⟩, .slice (some ⟨S - 2, 0, none⟩) 1 1, .string ⟨#[]⟩], .string ⟨#[]⟩] w1 fun e w' => e = .returned (.tuple #[.string ⟨exS.toArray⟩, .string ⟨#[117]⟩]) ∧ (w'.cell? ⟨wr.heap.size, 0, none⟩ = some (.int .i64 1) ∧ w'.cell? ⟨wr.heap.size, 1, none⟩ = some (.string ⟨#[117]⟩) ∧ w'.cell? ⟨wr.heap.size, 2, none⟩ = some (.string ⟨#[97]⟩) ∧ w'.cell? ⟨wr.heap.size, 3, none⟩ = some (.slice (some ⟨S - 2, 0, none⟩) 1 1) ∧ w'.cell? ⟨wr.heap.size, 4, none⟩ = some (.string ⟨#[]⟩)) ∧ Hid (PtH S b 0 wr.heap.size #[.int .i64 1, .string ⟨#[117]⟩, .string ⟨#[97]⟩, .slice (some ⟨S - 2, 0, none⟩) 1 1, .string ⟨#[]⟩] w w')) := Lib.hid fun w1 h => (CO1.out w1 h.out.1.1 (by have := h.out.1.2.2.2; omega)).mono fun e w' ⟨he, hb⟩ => ⟨he, at4 w' (Lib.hid (h.out.kept hb)), Lib.hid (h.out.kept hb)⟩
      have WS : Hid (∀ w1, Hid (PtH S b 0 wr.heap.size #[.int .i64 1, .string ⟨#[117]⟩, .string ⟨#[97]⟩, .slice (some ⟨S - 2, 0, none⟩) 1 1, .string ⟨#[]⟩] w w1) → Calls Tryz.prog 77 #[.pointer (some ⟨b, 0, none⟩), .string ⟨exS.toArray⟩] w1 fun e w' => (∃ z, e = .returned (.tuple #[.int .i64 z, .nilIface])) ∧ w'.cell? ⟨wr.heap.size, 0, none⟩ = some (.int .i64 1) ∧ Hid (Below S w w' ∧ Bld (b + 1) b (exT 1) w' ∧ RowB (b + 1) (exO 0) w' ∧ b + 2 ≤ w'.heap.size ∧ S ≤ b)) := Lib.hid fun w1 h => (writeString_o b (exT 0) exS w1 h.out.1.2.1 (by decide)).mono fun e w' ⟨he, hb, hf, hk⟩ => by
        have h4 := h.out.1.2.2.2
        have hq := hk wr.heap.size _ (by omega) (fun vs f e => by injection e with _ e2 _; exact absurd e2 (by decide)) h.out.2
        exact ⟨⟨_, he⟩, cell_of 0 hq, Lib.hid ⟨h.out.1.1.trans (hf.below (by omega) (by omega)), hb, (h.out.1.2.2.1 (by omega)).ko hk (by omega), Nat.le_trans h4.1 hf.size, h4.2⟩⟩
      clear HJ CO1 CO2 HE HTB
      go_wp2_with fail
      obtain ⟨a0, a1, a2, a3, a4⟩ := at4 _ hJ
      clear at4
      go_region_held3 (fun w' => w'.cell? ⟨wr.heap.size, 0, none⟩ = some (.int .i64 1) ∧ w'.cell? ⟨wr.heap.size, 1, none⟩ = some (.string ⟨#[117]⟩) ∧ w'.cell? ⟨wr.heap.size, 2, none⟩ = some (.string ⟨#[97]⟩) ∧ w'.cell? ⟨wr.heap.size, 3, none⟩ = some (.slice (some ⟨S - 2, 0, none⟩) 1 1) ∧ w'.cell? ⟨wr.heap.size, 4, none⟩ = some (.string ⟨#[]⟩)) (first | exact ⟨by assumption, by assumption, by assumption, by assumption, by assumption⟩) (first
          | (go_at_call 111; refine (PT.out _ (by assumption)).mono ?_; rintro e w4 ⟨rfl, ⟨b0, b1, b2, b3, b4⟩, hj4⟩)
          | (go_at_call 17; refine (PO.out _ (by assumption)).mono ?_; rintro e w5 ⟨rfl, ⟨d0, d1, d2, d3, d4⟩, hj5⟩))
      all_goals
        go_wp2_with fail
        refine (WS.out _ hj5).mono ?_
        rintro e w6 ⟨⟨z6, rfl⟩, g0, HQ⟩
        clear PT PO WS
        go_wp2_with fail
        refine (cnPush_c (b + 1) [117] w6 HQ.out.2.2.1).mono ?_
        rintro e w7 ⟨rfl, hR, hP⟩
        have HN : Hid (PtJ S b 1 w w7) := Lib.hid ⟨HQ.out.1.trans (hP.1.mono (by have := HQ.out.2.2.2.2; omega)), HQ.out.2.1.pk HQ.out.2.2.1 hP (by omega), fun _ => hR, Nat.le_trans HQ.out.2.2.2.1 hP.1.size, HQ.out.2.2.2.2⟩
        clear HQ
        go_wp2
        go_roundg (1)
        case measure => have := hg.out; omega
        case rel => exact ⟨1, rfl, by omega, Lib.hid rfl, HN⟩
    · clear B2
      obtain ⟨b1, o1, x, hA, hb1, hx, hc1⟩ := (HE.out wr HJ.out.1).row.cell (i := 1) (by omega)
      cases hA
      have hx2 : x = exW := by simpa using hx.symm
      subst hx2
      have y0 : wr.cell? ⟨b0, 5, none⟩ = some (.int .i64 2) := hc1 0 _ rfl
      have y1 : wr.cell? ⟨b0, 6, none⟩ = some (.string ⟨#[117]⟩) := hc1 1 _ rfl
      have y2 : wr.cell? ⟨b0, 7, none⟩ = some (.string ⟨#[97]⟩) := hc1 2 _ rfl
      have y3 : wr.cell? ⟨b0, 8, none⟩ = some (.slice none 0 0) := hc1 3 _ rfl
      have y4 : wr.cell? ⟨b0, 9, none⟩ = some (.string ⟨#[]⟩) := hc1 4 _ rfl
      clear hb1 hx hc1
      have hsz : b + 2 ≤ wr.heap.size := HJ.out.2.2.2.1
      have hJ : Hid (PtH S b 1 wr.heap.size #[.int .i64 2, .string ⟨#[117]⟩, .string ⟨#[97]⟩, .slice none 0 0, .string ⟨#[]⟩] w (wr.alloc (.cells #[.int .i64 2, .string ⟨#[117]⟩, .string ⟨#[97]⟩, .slice none 0 0, .string ⟨#[]⟩] 41)).drew) := Lib.hid (PtH.drew ⟨HJ.out.kept ((Below.refl _ wr).alloc (Nat.le_refl _) _), hp_new wr _⟩)
      have at4 : ∀ w', Hid (PtH S b 1 wr.heap.size #[.int .i64 2, .string ⟨#[117]⟩, .string ⟨#[97]⟩, .slice none 0 0, .string ⟨#[]⟩] w w') → w'.cell? ⟨wr.heap.size, 0, none⟩ = some (.int .i64 2) ∧ w'.cell? ⟨wr.heap.size, 1, none⟩ = some (.string ⟨#[117]⟩) ∧ w'.cell? ⟨wr.heap.size, 2, none⟩ = some (.string ⟨#[97]⟩) ∧ w'.cell? ⟨wr.heap.size, 3, none⟩ = some (.slice none 0 0) ∧ w'.cell? ⟨wr.heap.size, 4, none⟩ = some (.string ⟨#[]⟩) := fun w' h => ⟨cell_of 0 h.out.2, cell_of 1 h.out.2, cell_of 2 h.out.2, cell_of 3 h.out.2, cell_of 4 h.out.2⟩
      have PT : Hid (∀ w1, Hid (PtH S b 1 wr.heap.size #[.int .i64 2, .string ⟨#[117]⟩, .string ⟨#[97]⟩, .slice none 0 0, .string ⟨#[]⟩] w w1) → Calls Tryz.prog 111 #[.pointer (some ⟨b + 1, 0, none⟩)] w1 fun e w' => e = .returned (.string ⟨#[117]⟩) ∧ (w'.cell? ⟨wr.heap.size, 0, none⟩ = some (.int .i64 2) ∧ w'.cell? ⟨wr.heap.size, 1, none⟩ = some (.string ⟨#[117]⟩) ∧ w'.cell? ⟨wr.heap.size, 2, none⟩ = some (.string ⟨#[97]⟩) ∧ w'.cell? ⟨wr.heap.size, 3, none⟩ = some (.slice none 0 0) ∧ w'.cell? ⟨wr.heap.size, 4, none⟩ = some (.string ⟨#[]⟩)) ∧ Hid (PtH S b 1 wr.heap.size #[.int .i64 2, .string ⟨#[117]⟩, .string ⟨#[97]⟩, .slice none 0 0, .string ⟨#[]⟩] w w')) := Lib.hid fun w1 h => (cnTop_one (b + 1) [117] w1 (h.out.1.2.2.1 (by omega))).mono fun e w' ⟨he, hb⟩ => ⟨he, at4 w' (Lib.hid (h.out.kept hb)), Lib.hid (h.out.kept hb)⟩
      have PO : Hid (∀ w1, Hid (PtH S b 1 wr.heap.size #[.int .i64 2, .string ⟨#[117]⟩, .string ⟨#[97]⟩, .slice none 0 0, .string ⟨#[]⟩] w w1) → Calls Tryz.prog 17 #[.agg #[.int .i64 2, .string ⟨#[117]⟩, .string ⟨#[97]⟩, .slice none 0 0, .string ⟨#[]⟩], .string ⟨#[117]⟩] w1 fun e w' => e = .returned (.tuple #[.string ⟨#[60, 47, 97, 62]⟩, .string ⟨#[117]⟩]) ∧ (w'.cell? ⟨wr.heap.size, 0, none⟩ = some (.int .i64 2) ∧ w'.cell? ⟨wr.heap.size, 1, none⟩ = some (.string ⟨#[117]⟩) ∧ w'.cell? ⟨wr.heap.size, 2, none⟩ = some (.string ⟨#[97]⟩) ∧ w'.cell? ⟨wr.heap.size, 3, none⟩ = some (.slice none 0 0) ∧ w'.cell? ⟨wr.heap.size, 4, none⟩ = some (.string ⟨#[]⟩)) ∧ Hid (PtH S b 1 wr.heap.size #[.int .i64 2, .string ⟨#[117]⟩, .string ⟨#[97]⟩, .slice none 0 0, .string ⟨#[]⟩] w w')) := Lib.hid fun w1 h => (CO2.out w1 h.out.1.1 (by have := h.out.1.2.2.2; omega)).mono fun e w' ⟨he, hb⟩ => ⟨he, at4 w' (Lib.hid (h.out.kept hb)), Lib.hid (h.out.kept hb)⟩
      have WS : Hid (∀ w1, Hid (PtH S b 1 wr.heap.size #[.int .i64 2, .string ⟨#[117]⟩, .string ⟨#[97]⟩, .slice none 0 0, .string ⟨#[]⟩] w w1) → Calls Tryz.prog 77 #[.pointer (some ⟨b, 0, none⟩), .string ⟨#[60, 47, 97, 62]⟩] w1 fun e w' => (∃ z, e = .returned (.tuple #[.int .i64 z, .nilIface])) ∧ w'.cell? ⟨wr.heap.size, 0, none⟩ = some (.int .i64 2) ∧ Hid (Below S w w' ∧ Bld (b + 1) b (exT 2) w' ∧ RowB (b + 1) (exO 1) w' ∧ b + 2 ≤ w'.heap.size ∧ S ≤ b)) := Lib.hid fun w1 h => (writeString_o b (exT 1) [60, 47, 97, 62] w1 h.out.1.2.1 (by decide)).mono fun e w' ⟨he, hb, hf, hk⟩ => by
        have h4 := h.out.1.2.2.2
        have hq := hk wr.heap.size _ (by omega) (fun vs f e => by injection e with _ e2 _; exact absurd e2 (by decide)) h.out.2
        exact ⟨⟨_, he⟩, cell_of 0 hq, Lib.hid ⟨h.out.1.1.trans (hf.below (by omega) (by omega)), hb, (h.out.1.2.2.1 (by omega)).ko hk (by omega), Nat.le_trans h4.1 hf.size, h4.2⟩⟩
      clear HJ CO1 CO2 HE HTB
      go_wp2_with fail
      obtain ⟨a0, a1, a2, a3, a4⟩ := at4 _ hJ
      clear at4
      go_region_held3 (fun w' => w'.cell? ⟨wr.heap.size, 0, none⟩ = some (.int .i64 2) ∧ w'.cell? ⟨wr.heap.size, 1, none⟩ = some (.string ⟨#[117]⟩) ∧ w'.cell? ⟨wr.heap.size, 2, none⟩ = some (.string ⟨#[97]⟩) ∧ w'.cell? ⟨wr.heap.size, 3, none⟩ = some (.slice none 0 0) ∧ w'.cell? ⟨wr.heap.size, 4, none⟩ = some (.string ⟨#[]⟩)) (first | exact ⟨by assumption, by assumption, by assumption, by assumption, by assumption⟩) (first
          | (go_at_call 111; refine (PT.out _ (by assumption)).mono ?_; rintro e w4 ⟨rfl, ⟨b0, b1, b2, b3, b4⟩, hj4⟩)
          | (go_at_call 17; refine (PO.out _ (by assumption)).mono ?_; rintro e w5 ⟨rfl, ⟨d0, d1, d2, d3, d4⟩, hj5⟩))
      all_goals
        go_wp2_with fail
        refine (WS.out _ hj5).mono ?_
        rintro e w6 ⟨⟨z6, rfl⟩, g0, HQ⟩
        clear PT PO WS
        go_wp2_with fail
        refine (cnPop_c (b + 1) [117] w6 HQ.out.2.2.1).mono ?_
        rintro e w7 ⟨rfl, hP⟩
        have HN : Hid (PtJ S b 2 w w7) := Lib.hid ⟨HQ.out.1.trans (hP.1.mono (by have := HQ.out.2.2.2.2; omega)), HQ.out.2.1.pk HQ.out.2.2.1 hP (by omega), fun h => by omega, Nat.le_trans HQ.out.2.2.2.1 hP.1.size, HQ.out.2.2.2.2⟩
        clear HQ
        go_wp2
        go_roundg (0)
        case measure => have := hg.out; omega
        case rel => exact ⟨2, rfl, by omega, Lib.hid rfl, HN⟩
    · have ST := Lib.hid (string_b (b + 1) b (exT 2) wr HJ.out.2.1)
      have HB9 := Lib.hid HJ.out.1
      have hSb : S ≤ b := HJ.out.2.2.2.2
      clear HJ
      go_wp2_with fail
      refine ST.out.mono ?_
      rintro e w9 ⟨rfl, hb⟩
      have HF : Hid (Below w.heap.size w w9) := Lib.hid (by rw [← HSS.out]; exact HB9.out.trans (hb.mono hSb))
      clear hb
      go_wp2
      go_ret2
      exact ⟨rfl, HF.out⟩
end Go.Proofs.YthihkbcdihochaaGreatDoor
/- How many bytes events have; what is more than statements ask. -/
namespace Go.Proofs.YthihkbcdihochaaGreatDoor
open Go.ChangeShapes Go.WideShapes Go.ChangeAt Go.RowKit
set_option linter.unusedVariables false
def lenA (a : List UInt8 × List UInt8 × List UInt8) : Nat := a.1.length + a.2.1.length + a.2.2.length
def sumB : List (List UInt8 × List UInt8 × List UInt8) → Nat
  | [] => 0
  | a :: l => lenA a + sumB l
def bytesE (e : EvT) : Nat := e.sp.length + e.lo.length + e.tx.length + sumB e.ats
def sumE : List EvT → Nat
  | [] => 0
  | e :: l => bytesE e + e.ats.length + sumE l
def greatE (l : List EvT) : Bool := decide (100 < l.length) || decide (5000 < sumE (l.take 200))
theorem sumB_app (l t : List (List UInt8 × List UInt8 × List UInt8)) : sumB (l ++ t) = sumB l + sumB t := by
  induction l with
  | nil => simp [sumB]
  | cons a l ih => rw [List.cons_append, sumB, sumB, ih]; omega
theorem sumE_app (l t : List EvT) : sumE (l ++ t) = sumE l + sumE t := by
  induction l with
  | nil => simp [sumE]
  | cons a l ih => rw [List.cons_append, sumE, sumE, ih]; omega
theorem sumB_snoc {ats : List (List UInt8 × List UInt8 × List UInt8)} {t : Nat} {x : List UInt8 × List UInt8 × List UInt8} (h : ats[t]? = some x) : sumB (ats.take (t + 1)) = sumB (ats.take t) + lenA x := by
  rw [List.take_add_one, h, sumB_app]
  simp [sumB]
theorem sumB_le {B : Nat} : ∀ ats : List (List UInt8 × List UInt8 × List UInt8), (∀ a ∈ ats, lenA a ≤ B) → sumB ats ≤ ats.length * B
  | [], _ => by simp [sumB]
  | a :: l, h => by
    have h1 := h a List.mem_cons_self
    have h2 := sumB_le l fun b hb => h b (List.mem_cons_of_mem _ hb)
    rw [sumB, List.length_cons, Nat.add_mul]
    omega
theorem sumB_mem : ∀ {ats : List (List UInt8 × List UInt8 × List UInt8)} {a : List UInt8 × List UInt8 × List UInt8}, a ∈ ats → lenA a ≤ sumB ats
  | b :: l, a, h => by
    rw [sumB]
    rcases List.mem_cons.1 h with rfl | h
    · omega
    · have := sumB_mem h; omega
theorem sumE_mem : ∀ {l : List EvT} {e : EvT}, e ∈ l → bytesE e + e.ats.length ≤ sumE l
  | b :: l, a, h => by
    rw [sumE]
    rcases List.mem_cons.1 h with rfl | h
    · omega
    · have := sumE_mem h; omega
/-- Events that are not more than statements ask: few, and short. -/
theorem greatE_no {vs : List EvV} (h : greatE (vs.map EvV.e) = false) (hn : ∀ v ∈ vs, v.e.ats.length = v.n) : vs.length ≤ 100 ∧ ∀ v ∈ vs, EvLe 5000 v := by
  unfold greatE at h
  simp only [Bool.or_eq_false_iff, decide_eq_false_iff_not, List.length_map] at h
  have hl : vs.length ≤ 100 := by omega
  refine ⟨hl, fun v hv => ?_⟩
  rw [List.take_of_length_le (by rw [List.length_map]; omega)] at h
  have h1 := sumE_mem (List.mem_map.2 ⟨v, hv, rfl⟩ : v.e ∈ vs.map EvV.e)
  have h2 := hn v hv
  unfold bytesE at h1
  refine ⟨by omega, by omega, by omega, by omega, fun a ha => ?_⟩
  have h3 := sumB_mem ha
  unfold lenA at h3
  omega
theorem lenA_le {b : Nat} {v : EvV} (h : EvLe b v) : ∀ a ∈ v.e.ats, lenA a ≤ 3 * b := fun a ha => by
  have := h.ats a ha
  unfold lenA
  omega
theorem bytesE_le {v : EvV} (h : EvLe 1048576 v) (hn : v.e.ats.length = v.n) : bytesE v.e ≤ 4000000000000 := by
  have h1 := sumB_le v.e.ats (lenA_le h)
  have h2 := h.sp
  have h3 := h.lo
  have h4 := h.tx
  have h5 := h.n
  have h6 : v.e.ats.length * (3 * 1048576) ≤ 1048576 * (3 * 1048576) := Nat.mul_le_mul_right _ (by omega)
  unfold bytesE
  omega
theorem sumE_le : ∀ (vs : List EvV), (∀ v ∈ vs, EvLe 1048576 v ∧ v.e.ats.length = v.n) → sumE (vs.map EvV.e) ≤ vs.length * 4000002000000
  | [], _ => by simp [sumE]
  | v :: l, h => by
    obtain ⟨h1, h2⟩ := h v List.mem_cons_self
    have h3 := sumE_le l fun b hb => h b (List.mem_cons_of_mem _ hb)
    have h4 := bytesE_le h1 h2
    have h5 := h1.n
    rw [List.map_cons, sumE, List.length_cons, Nat.add_mul]
    omega
set_option maxRecDepth 100000 in
set_option maxHeartbeats 8000000 in
theorem refBytes_c (k : Int) (sp lo tx : List UInt8) (A : Option Addr) (n cap : Nat) (ats : List (List UInt8 × List UInt8 × List UInt8)) (w : World) (h : RRd cA 3 w w.heap.size A n cap ats) (hle : EvLe 1048576 ⟨⟨k, sp, lo, ats, tx⟩, A, n, cap⟩) :
    Calls Tryz.prog 48 #[.agg #[.int .i64 k, .string ⟨sp.toArray⟩, .string ⟨lo.toArray⟩, .slice A n cap, .string ⟨tx.toArray⟩]] w fun e w' => e = .returned (.int .i64 (bytesE ⟨k, sp, lo, ats, tx⟩ : Nat)) ∧ Below w.heap.size w w' := by
  have HP : Hid (∀ W, Below w.heap.size w W → RRd cA 3 W W.heap.size A n cap ats) := Lib.hid fun W hb => (h.below hb).more hb.size
  have HLN : Hid (ats.length = n) := Lib.hid h.len
  have h1 : sp.length ≤ 1048576 := hle.sp
  have h2 : lo.length ≤ 1048576 := hle.lo
  have h3 : tx.length ≤ 1048576 := hle.tx
  have h4 : n ≤ 1048576 := hle.n
  have HAL : Hid (∀ a ∈ ats, a.1.length ≤ 1048576 ∧ a.2.1.length ≤ 1048576 ∧ a.2.2.length ≤ 1048576) := Lib.hid hle.ats
  have HSL : Hid (∀ t, sumB (ats.take t) ≤ 4000000000000) := Lib.hid fun t => by
    have g1 := sumB_le (B := 3 * 1048576) (ats.take t) fun a ha => lenA_le hle a (List.mem_of_mem_take ha)
    have g2 : (ats.take t).length ≤ 1048576 := by have := h.len; rw [List.length_take]; omega
    have g3 : (ats.take t).length * (3 * 1048576) ≤ 1048576 * (3 * 1048576) := Nat.mul_le_mul_right _ g2
    omega
  have i1 : (sp.length : Int) ≤ 1048576 := by omega
  have i2 : (lo.length : Int) ≤ 1048576 := by omega
  have i3 : (tx.length : Int) ≤ 1048576 := by omega
  have i4 : (n : Int) ≤ 1048576 := by omega
  have HB0 : Hid (bytesE ⟨k, sp, lo, ats, tx⟩ = sp.length + lo.length + tx.length + sumB (ats.take n)) := Lib.hid (by rw [List.take_of_length_le (by rw [h.len]; exact Nat.le_refl _)]; rfl)
  have J0 := Lib.hid (CJ.start 41 w #[.int .i64 k, .string ⟨sp.toArray⟩, .string ⟨lo.toArray⟩, .slice A n cap, .string ⟨tx.toArray⟩])
  have z0 := cell_of 0 J0.out.2
  have z1 := cell_of 1 J0.out.2
  have z2 := cell_of 2 J0.out.2
  have z4 := cell_of 4 J0.out.2
  obtain ⟨R, hR⟩ : ∃ q, bytesE ⟨k, sp, lo, ats, tx⟩ = q := ⟨_, rfl⟩
  rw [hR] at HB0 ⊢
  obtain ⟨c0, hc0⟩ : ∃ q, sp.length + lo.length + tx.length = q := ⟨_, rfl⟩
  have HC0 : Hid ((sp.length : Int) + (lo.length : Int) + (tx.length : Int) = ((c0 + sumB (ats.take 0) : Nat) : Int)) := Lib.hid (by simp [sumB]; omega)
  rw [hc0] at HB0
  have hc9 : c0 ≤ 4000000 := by omega
  have HC9 := Lib.hid hc9
  clear h hle hR h1 h2 h3 h4 hc0 hc9
  go_enter Tryz.func48, Tryz.ntmps48
  go_wp2
  clear z0 z1 z2 z4 i1 i2 i3
  go_loopg [3, 4] (n) (fun g s i wr => ∃ t : Nat, i = .int .i64 (t : Int) ∧ s = .int .i64 ((c0 + sumB (ats.take t) : Nat) : Int) ∧ t ≤ n ∧ Hid (g + t = n) ∧ Hid (CJ 41 w wr #[.int .i64 k, .string ⟨sp.toArray⟩, .string ⟨lo.toArray⟩, .slice A n cap, .string ⟨tx.toArray⟩]))
  case atStart => exact ⟨0, rfl, by rw [HC0.out], Nat.zero_le _, Lib.hid rfl, J0⟩
  case round =>
    obtain ⟨t, rfl, rfl, ht, hg, HJ⟩ := hrel
    have ht0 : (0 : Int) ≤ (t : Int) := by omega
    have ht9 : (t : Int) ≤ 1048576 := by omega
    have z3 := cell_of 3 HJ.out.2
    by_cases htn : t < n
    · have hti : (t : Int) < (n : Int) := by omega
      obtain ⟨b1, o1, x, rfl, hb1, hx, hc1⟩ := (HP.out _ HJ.out.1).cell htn
      have hx3 := HAL.out x (List.mem_of_getElem? hx)
      have HSS := Lib.hid (sumB_snoc hx)
      obtain ⟨xs, xl, xv⟩ := x
      have y0 : wr.cell? ⟨b1, o1 + t * 3, none⟩ = some (.string ⟨xs.toArray⟩) := by rw [show o1 + t * 3 = o1 + (t * 3 + 0) by omega]; exact hc1 0 _ rfl
      have y1 : wr.cell? ⟨b1, o1 + t * 3 + 1, none⟩ = some (.string ⟨xl.toArray⟩) := by rw [show o1 + t * 3 + 1 = o1 + (t * 3 + 1) by omega]; exact hc1 1 _ rfl
      have y2 : wr.cell? ⟨b1, o1 + t * 3 + 2, none⟩ = some (.string ⟨xv.toArray⟩) := by rw [show o1 + t * 3 + 2 = o1 + (t * 3 + 2) by omega]; exact hc1 2 _ rfl
      simp only at hx3
      have l1 : (xs.length : Int) ≤ 1048576 := by omega
      have l2 : (xl.length : Int) ≤ 1048576 := by omega
      have l3 : (xv.length : Int) ≤ 1048576 := by omega
      have HS9 := HSL.out t
      obtain ⟨S, hS⟩ : ∃ q, c0 + sumB (ats.take t) = q := ⟨_, rfl⟩
      have hS9 : (S : Int) ≤ 5000000000000 := by have := HC9.out; omega
      have hS0 : (0 : Int) ≤ (S : Int) := by omega
      have HSN : Hid ((S : Int) + (xs.length : Int) + (xl.length : Int) + (xv.length : Int) = ((c0 + sumB (ats.take (t + 1)) : Nat) : Int)) := Lib.hid (by
        have := HSS.out
        unfold lenA at this
        simp only at this
        omega)
      rw [hS]
      clear hb1 hx hc1 hx3 HS9 hS
      go_wp2_with fail
      go_quiet (fail)
      have HJ2 : Hid (CJ 41 w (wr.drewN nq) _) := Lib.hid ⟨below_drewN' HJ.out.1, HJ.out.2⟩
      clear y0 y1 y2 z3
      generalize wr.drewN nq = wq at *
      go_wp2
      go_roundg (n - (t + 1))
      case measure => have := hg.out; omega
      case rel => exact ⟨t + 1, by go_num, by rw [HSN.out], by omega, Lib.hid (by have := hg.out; omega), HJ2⟩
    · have hti : ¬ (t : Int) < (n : Int) := by omega
      obtain rfl : t = n := by omega
      go_wp2
      go_ret
      exact ⟨by rw [HB0.out]; rfl, HJ.out.1⟩
set_option maxRecDepth 100000 in
set_option maxHeartbeats 8000000 in
theorem refGreat_c (A : Option Addr) (n cap : Nat) (vs : List EvV) (w : World) (h : ERd w w.heap.size A n cap vs) (hm : n ≤ 1048576) (hle : ∀ v ∈ vs, EvLe 1048576 v) :
    Calls Tryz.prog 15 #[.slice A n cap] w fun e w' => e = .returned (.bool (greatE (vs.map EvV.e))) ∧ Below w.heap.size w w' := by
  have HP : Hid (∀ W, Below w.heap.size w W → ERd W W.heap.size A n cap vs) := Lib.hid fun W hb => (h.below hb).more hb.size
  have HLN : Hid (vs.length = n) := Lib.hid h.row.len
  have HE := Lib.hid hle
  have HSL : Hid (∀ t, t ≤ 200 → sumE ((vs.take t).map EvV.e) ≤ 800000400000000) := Lib.hid fun t ht => by
    have g1 := sumE_le (vs.take t) fun v hv => ⟨hle v (List.mem_of_mem_take hv), (h.ats v (List.mem_of_mem_take hv)).len⟩
    have g2 : (vs.take t).length ≤ 200 := by rw [List.length_take]; omega
    have g3 : (vs.take t).length * 4000002000000 ≤ 200 * 4000002000000 := Nat.mul_le_mul_right _ g2
    omega
  have HB0 : Hid (greatE (vs.map EvV.e) = (decide (100 < n) || decide (5000 < sumE ((vs.take 200).map EvV.e)))) := Lib.hid (by unfold greatE; rw [List.length_map, h.row.len, List.map_take])
  have i4 : (n : Int) ≤ 1048576 := by omega
  obtain ⟨R, hR⟩ : ∃ q, greatE (vs.map EvV.e) = q := ⟨_, rfl⟩
  rw [hR] at HB0 ⊢
  clear h hle hR hm
  go_enter Tryz.func15, Tryz.ntmps15
  go_wp2
  go_loopg [3, 4] (n) (fun g s i wr => ∃ t : Nat, i = .int .i64 (t : Int) ∧ s = .int .i64 ((sumE ((vs.take t).map EvV.e) : Nat) : Int) ∧ t ≤ n ∧ t ≤ 200 ∧ Hid (g + t = n) ∧ Hid (Below w.heap.size w wr))
  case atStart => exact ⟨0, rfl, rfl, Nat.zero_le _, Nat.zero_le _, Lib.hid rfl, Lib.hid (Below.refl _ _)⟩
  case round =>
    obtain ⟨t, rfl, rfl, ht, ht2, hg, HB⟩ := hrel
    have ht0 : (0 : Int) ≤ (t : Int) := by omega
    have ht9 : (t : Int) ≤ 200 := by omega
    have HS9 := HSL.out t ht2
    by_cases htn : t < n ∧ t < 200
    · have hti : (t : Int) < (n : Int) := by omega
      have htj : (t : Int) < 200 := by omega
      obtain ⟨b1, o1, x, hAe, hb1, hx, hc1⟩ := (HP.out _ HB.out).row.cell htn.1
      subst hAe
      have hmem := List.mem_of_getElem? hx
      have hex := HE.out x hmem
      have HSS : Hid (sumE ((vs.take (t + 1)).map EvV.e) = sumE ((vs.take t).map EvV.e) + (bytesE x.e + x.e.ats.length)) := Lib.hid (by
        rw [List.take_add_one, hx, List.map_append, sumE_app]
        simp [sumE])
      have hxa := ((HP.out _ HB.out).ats x hmem).len
      have hbl := bytesE_le hex hxa
      have hxn := hex.n
      have CB : Hid (∀ W, Hid (Below w.heap.size w W) → Calls Tryz.prog 48 #[.agg #[.int .i64 x.e.kind, .string ⟨x.e.sp.toArray⟩, .string ⟨x.e.lo.toArray⟩, .slice x.A x.n x.c, .string ⟨x.e.tx.toArray⟩]] W fun e w' => e = .returned (.int .i64 (bytesE x.e : Nat)) ∧ Hid (Below w.heap.size w w') ∧ w'.cell? ⟨b1, o1 + t * 5, none⟩ = some (.int .i64 x.e.kind) ∧ w'.cell? ⟨b1, o1 + t * 5 + 1, none⟩ = some (.string ⟨x.e.sp.toArray⟩) ∧ w'.cell? ⟨b1, o1 + t * 5 + 2, none⟩ = some (.string ⟨x.e.lo.toArray⟩) ∧ w'.cell? ⟨b1, o1 + t * 5 + 3, none⟩ = some (.slice x.A x.n x.c) ∧ w'.cell? ⟨b1, o1 + t * 5 + 4, none⟩ = some (.string ⟨x.e.tx.toArray⟩)) := Lib.hid fun W hW =>
        (refBytes_c x.e.kind x.e.sp x.e.lo x.e.tx x.A x.n x.c x.e.ats W ((HP.out _ hW.out).ats x hmem) hex).mono fun e w' ⟨he, hb⟩ => by
          obtain ⟨b2, o2, y, e2, _, hy, hc2⟩ := (HP.out _ (hW.out.trans (hb.mono hW.out.size))).row.cell htn.1
          cases e2
          rw [hx] at hy
          cases hy
          exact ⟨he, Lib.hid (hW.out.trans (hb.mono hW.out.size)), hc2 0 _ rfl, hc2 1 _ rfl, hc2 2 _ rfl, hc2 3 _ rfl, hc2 4 _ rfl⟩
      have y0 : wr.cell? ⟨b1, o1 + t * 5, none⟩ = some (.int .i64 x.e.kind) := hc1 0 _ rfl
      have y1 : wr.cell? ⟨b1, o1 + t * 5 + 1, none⟩ = some (.string ⟨x.e.sp.toArray⟩) := hc1 1 _ rfl
      have y2 : wr.cell? ⟨b1, o1 + t * 5 + 2, none⟩ = some (.string ⟨x.e.lo.toArray⟩) := hc1 2 _ rfl
      have y3 : wr.cell? ⟨b1, o1 + t * 5 + 3, none⟩ = some (.slice x.A x.n x.c) := hc1 3 _ rfl
      have y4 : wr.cell? ⟨b1, o1 + t * 5 + 4, none⟩ = some (.string ⟨x.e.tx.toArray⟩) := hc1 4 _ rfl
      obtain ⟨S, hS⟩ : ∃ q, sumE ((vs.take t).map EvV.e) = q := ⟨_, rfl⟩
      rw [hS] at HSS HS9
      rw [hS]
      obtain ⟨bb, hbb⟩ : ∃ q, bytesE x.e = q := ⟨_, rfl⟩
      rw [hbb] at HSS hbl CB
      rw [hxa] at HSS
      clear hS hb1 hx hc1 hmem hex hxa hbb
      obtain ⟨⟨k, sp, lo, ats, tx⟩, XA, xn, xc⟩ := x
      simp only at HSS hbl CB y0 y1 y2 y3 y4 hxn
      have l1 : (S : Int) ≤ 800000400000000 := by omega
      have l2 : (bb : Int) ≤ 4000000000000 := by omega
      have l3 : (xn : Int) ≤ 1048576 := by omega
      have l4 : (0 : Int) ≤ (S : Int) := by omega
      have l5 : (0 : Int) ≤ (bb : Int) := by omega
      have l6 : (0 : Int) ≤ (xn : Int) := by omega
      have HSN : Hid ((S : Int) + (bb : Int) + (xn : Int) = ((sumE ((vs.take (t + 1)).map EvV.e) : Nat) : Int)) := Lib.hid (by
        have := HSS.out
        omega)
      clear HS9 hbl hxn
      have d0 : wr.drew.cell? ⟨b1, o1 + t * 5, none⟩ = some (.int .i64 k) := y0
      have d1 : wr.drew.cell? ⟨b1, o1 + t * 5 + 1, none⟩ = some (.string ⟨sp.toArray⟩) := y1
      have d2 : wr.drew.cell? ⟨b1, o1 + t * 5 + 2, none⟩ = some (.string ⟨lo.toArray⟩) := y2
      have d3 : wr.drew.cell? ⟨b1, o1 + t * 5 + 3, none⟩ = some (.slice XA xn xc) := y3
      have d4 : wr.drew.cell? ⟨b1, o1 + t * 5 + 4, none⟩ = some (.string ⟨tx.toArray⟩) := y4
      have HBd : Hid (Below w.heap.size w wr.drew) := Lib.hid (below_drewN' (n := 1) HB.out)
      have HFB : ∀ W, Hid (Below w.heap.size w W) → Hid (Below w.heap.size w W) := fun _ h => h
      go_wp2_with fail
      go_region_held3 (fun w' => w'.cell? ⟨b1, o1 + t * 5, none⟩ = some (.int .i64 k) ∧ w'.cell? ⟨b1, o1 + t * 5 + 1, none⟩ = some (.string ⟨sp.toArray⟩) ∧ w'.cell? ⟨b1, o1 + t * 5 + 2, none⟩ = some (.string ⟨lo.toArray⟩) ∧ w'.cell? ⟨b1, o1 + t * 5 + 3, none⟩ = some (.slice XA xn xc) ∧ w'.cell? ⟨b1, o1 + t * 5 + 4, none⟩ = some (.string ⟨tx.toArray⟩) ∧ Hid (Below w.heap.size w w')) (first | exact ⟨by assumption, by assumption, by assumption, by assumption, by assumption, by assumption⟩) (first
        | (go_at_call 48; refine (CB.out _ (by assumption)).mono ?_; rintro e W2 ⟨rfl, HQ2, g0, g1, g2, g3, g4⟩))
      have w1 : IntKind.i64.wrap ((S : Int) + (bb : Int)) = (S : Int) + (bb : Int) := by rw [IntKind.wrap_i64]; omega
      have w2 : IntKind.i64.wrap ((S : Int) + (bb : Int) + (xn : Int)) = (S : Int) + (bb : Int) + (xn : Int) := by rw [IntKind.wrap_i64]; omega
      rw [w1, w2]
      clear l1 l2 l3 w1 w2
      go_wp2
      go_roundg (n - (t + 1))
      case measure => have := hg.out; omega
      case rel => exact ⟨t + 1, by go_num, by rw [HSN.out], by omega, by omega, Lib.hid (by have := hg.out; omega), HFB _ (by assumption)⟩
    · have hex : (¬ (t : Int) < (n : Int)) ∨ ((t : Int) < (n : Int) ∧ ¬ (t : Int) < 200) := by omega
      have HT : Hid ((vs.take t) = vs.take 200) := Lib.hid (by
        rcases Nat.lt_or_ge t n with h1 | h1
        · rw [show t = 200 by omega]
        · rw [List.take_of_length_le (by rw [HLN.out]; omega), List.take_of_length_le (by rw [HLN.out]; omega)])
      have HB1 : Hid (R = (decide (100 < n) || decide (5000 < sumE ((vs.take t).map EvV.e)))) := Lib.hid (by rw [HB0.out, HT.out])
      obtain ⟨S, hS⟩ : ∃ q, sumE ((vs.take t).map EvV.e) = q := ⟨_, rfl⟩
      rw [hS] at HB1 ⊢
      clear hS HS9 HT
      by_cases h1 : 100 < n
      · have h1i : (100 : Int) < (n : Int) := by omega
        rw [decide_eq_true h1] at HB1
        rcases hex with hti | ⟨hti, htj⟩
        all_goals
          go_wp2
          go_ret
          exact ⟨by rw [HB1.out]; rfl, HB.out⟩
      · have h1i : ¬ (100 : Int) < (n : Int) := by omega
        rw [decide_eq_false h1] at HB1
        by_cases h2 : 5000 < S
        · have h2i : (5000 : Int) < (S : Int) := by omega
          rw [decide_eq_true h2] at HB1
          rcases hex with hti | ⟨hti, htj⟩
          all_goals
            go_wp2
            go_ret
            exact ⟨by rw [HB1.out]; rfl, HB.out⟩
        · have h2i : ¬ (5000 : Int) < (S : Int) := by omega
          rw [decide_eq_false h2] at HB1
          rcases hex with hti | ⟨hti, htj⟩
          all_goals
            go_wp2
            go_ret
            exact ⟨by rw [HB1.out]; rfl, HB.out⟩
end Go.Proofs.YthihkbcdihochaaGreatDoor
/- What a row's list of variables gives. -/
namespace Go.Proofs.YthihkbcdihochaaGreatDoor
open Go.ChangeShapes Go.WideShapes Go.ChangeAt Go.RowKit
set_option linter.unusedVariables false
/-- The cells that a datum of numbers, strings, arrays and structs takes, by its type: none where the lay-out has a gap. -/
def flatL (P : Program) (fl : TypeId → DataW Unit → Option (List Value)) : Nat → List (TypeId × Nat) → List (DataW Unit) → Option (List Value)
  | _, [], [] => some []
  | off, (t, o) :: ts, d :: ds => if o = off then (fl t d).bind fun v => if v.length = P.cellsOf t then (flatL P fl (off + P.cellsOf t) ts ds).map (v ++ ·) else none else none
  | _, _, _ => none
def flatD (P : Program) : Nat → TypeId → DataW Unit → Option (List Value)
  | 0, _, _ => none
  | f + 1, t, d => match P.underlying t, d with
    | some (.int k), .lit (.int k' n) => if k' = k then some [.int k n] else none
    | some .string, .lit (.string l) => some [.string ⟨l.toArray⟩]
    | some (.struct fs), .agg ds => (flatL P (flatD P f) 0 (fs.toList.map fun f => (f.type, f.offset)) ds).bind fun v => if v.length = P.cellsOf t then some v else none
    | some (.array n e), .agg ds => (flatL P (flatD P f) 0 ((List.range n).map fun i => (e, i * P.cellsOf e)) ds).bind fun v => if v.length = P.cellsOf t then some v else none
    | _, _ => none
theorem mapM_map {α β γ : Type} (g : α → β) (f : β → Option γ) : ∀ l : List α, (l.map g).mapM f = l.mapM fun a => f (g a)
  | [] => rfl
  | a :: l => by simp [List.mapM_cons, mapM_map g f l]
theorem mapM_cons_some {α β : Type} {f : α → Option β} {a : α} {l : List α} {ys : List β} (h : (a :: l).mapM f = some ys) : ∃ y ys', f a = some y ∧ l.mapM f = some ys' ∧ ys = y :: ys' := by
  rw [List.mapM_cons] at h
  obtain ⟨y, hy, h⟩ := Option.bind_eq_some_iff.1 h
  obtain ⟨ys', hys, h⟩ := Option.bind_eq_some_iff.1 h
  exact ⟨y, ys', hy, hys, (Option.some.inj h).symm⟩
theorem flatL_mapM {P : Program} {w : World} {base : Nat} {sp : Nat → Bool} {held : Bool} {enc : TypeId × Value → Unit} {fuel f : Nat} {cs : List Value}
    (ih : ∀ t cs d p vs, DataW.trod enc P w base sp held fuel t cs = some (d, p) → flatD P f t d = some vs → cs = vs) :
    ∀ (ts : List (TypeId × Nat)) (xs : List (DataW Unit × List MemPlace)) (off : Nat) (vs : List Value),
      (ts.mapM fun x => DataW.trod enc P w base sp held fuel x.1 ((cs.drop x.2).take (P.cellsOf x.1))) = some xs → flatL P (flatD P f) off ts (xs.map (·.1)) = some vs → (cs.drop off).take vs.length = vs
  | [], xs, off, vs, hm, hf => by
    have : xs = [] := by simpa using hm.symm
    subst this
    simp [flatL] at hf
    subst hf
    simp
  | (t, o) :: ts, xs, off, vs, hm, hf => by
    obtain ⟨⟨d, p⟩, xs', hx, hm', rfl⟩ := mapM_cons_some hm
    simp only [List.map_cons, flatL] at hf
    split at hf
    · rename_i ho
      subst ho
      obtain ⟨v, hv, hf⟩ := Option.bind_eq_some_iff.1 hf
      split at hf
      · rename_i hl
        obtain ⟨vs', hvs, rfl⟩ := Option.map_eq_some_iff.1 hf
        have h1 := ih t _ d p v hx hv
        have h2 := flatL_mapM ih ts xs' _ vs' hm' hvs
        simp only at h1
        rw [List.length_append, List.take_add, hl, h1, List.drop_drop, h2]
      · cases hf
    · cases hf
theorem flat_trod {P : Program} {w : World} {base : Nat} {sp : Nat → Bool} {held : Bool} {enc : TypeId × Value → Unit} : ∀ (fuel f : Nat) (t : TypeId) (cs : List Value) (d : DataW Unit) (p : List MemPlace) (vs : List Value),
    DataW.trod enc P w base sp held fuel t cs = some (d, p) → flatD P f t d = some vs → cs = vs := by
  intro fuel
  induction fuel with
  | zero => intro f t cs d p vs h; simp [DataW.trod] at h
  | succ fuel ih =>
    intro f t cs d p vs h hf
    cases f with
    | zero => simp [flatD] at hf
    | succ f =>
      unfold flatD at hf
      split at hf
      · rename_i k k' n hu
        split at hf
        · rename_i hk
          subst hk
          obtain ⟨m, hc, he, _⟩ := DataW.trod_int hu h
          cases he
          rw [hc]
          exact Option.some.inj hf
        · cases hf
      · rename_i l hu
        obtain ⟨m, hc, he, _⟩ := DataW.trod_string hu h
        cases he
        rw [hc]
        exact Option.some.inj hf
      · rename_i fs ds hu
        simp only [DataW.trod, hu] at h
        split at h
        · rename_i hl
          obtain ⟨xs, hm, hx⟩ := Option.map_eq_some_iff.1 h
          simp only [Prod.mk.injEq, DataW.agg.injEq] at hx
          obtain ⟨rfl, _⟩ := hx
          obtain ⟨v, hv, hf⟩ := Option.bind_eq_some_iff.1 hf
          split at hf
          · rename_i hvl
            have h2 := flatL_mapM (cs := cs) (fun t cs d p vs => ih f t cs d p vs) (fs.toList.map fun f => (f.type, f.offset)) xs 0 v (by rw [mapM_map]; exact hm) hv
            rw [List.drop_zero, hvl, ← hl, List.take_length] at h2
            rw [h2]
            exact Option.some.inj hf
          · cases hf
        · cases h
      · rename_i n e ds hu
        simp only [DataW.trod, hu] at h
        split at h
        · rename_i hl
          obtain ⟨xs, hm, hx⟩ := Option.map_eq_some_iff.1 h
          simp only [Prod.mk.injEq, DataW.agg.injEq] at hx
          obtain ⟨rfl, _⟩ := hx
          obtain ⟨v, hv, hf⟩ := Option.bind_eq_some_iff.1 hf
          split at hf
          · rename_i hvl
            have h2 := flatL_mapM (cs := cs) (fun t cs d p vs => ih f t cs d p vs) ((List.range n).map fun i => (e, i * P.cellsOf e)) xs 0 v (by rw [mapM_map]; exact hm) hv
            rw [List.drop_zero, hvl, ← hl, List.take_length] at h2
            rw [h2]
            exact Option.some.inj hf
          · cases hf
        · cases h
      · cases hf
/-- A variable that is listed holds the cells of its datum. -/
theorem laid_cells {P : Program} {w : World} : ∀ (laid : List (String × DataW Unit)) (ps : List MemPlace), DataW.LaidVars P w laid ps → ∀ (name : String) (d : DataW Unit), (name, d) ∈ laid →
    ∀ (g t f : Nat) (vs : List Value), P.globalNamed name = some g → (P.globals[g]?).map (·.type) = some t → flatD P f t d = some vs → w.var? P name = some vs.toArray
  | [], _, _, _, _, hm, _, _, _, _, _, _, _ => by cases hm
  | (n, d0) :: r, ps, h, name, d, hm, g, t, f, vs, hg, ht, hf => by
    obtain ⟨g', t', cs, fuel, p, q, hg', ht', hv, htr, hr, _⟩ := h
    rcases List.mem_cons.1 hm with e | hm
    · cases e
      obtain rfl := Option.some.inj (hg.symm.trans hg')
      obtain rfl := Option.some.inj (ht.symm.trans ht')
      rw [hv, ← flat_trod fuel f t cs.toList _ p vs htr hf]
    · exact laid_cells r q hr name d hm g t f vs hg ht hf
theorem block_of_var {P : Program} {w : World} {name : String} {g : Nat} {cs : Array Value} (hg : P.globalNamed name = some g) (h : w.var? P name = some cs) : ∃ T f, w.heap[g]? = some (.cells cs T f) := by
  simp only [World.var?, hg, Option.bind_some] at h
  split at h
  · rename_i cs' T f hb
    cases h
    exact ⟨T, f, hb⟩
  · cases h
theorem laid_var {P : Program} {w : World} {laid : List (String × DataW Unit)} (h : laidMet P laid w) (name : String) (d : DataW Unit) (hm : (name, d) ∈ laid) (g f : Nat) (vs : List Value)
    (hg : P.globalNamed name = some g) (hf : (((P.globals[g]?).map (·.type)).bind fun t => flatD P f t d) = some vs) : w.var? P name = some vs.toArray := by
  obtain ⟨ps, hl, _⟩ := h
  obtain ⟨t, ht, hf⟩ := Option.bind_eq_some_iff.1 hf
  exact laid_cells laid ps hl name d hm g t f vs hg ht hf
theorem laid_block {P : Program} {w : World} {laid : List (String × DataW Unit)} (h : laidMet P laid w) (name : String) (d : DataW Unit) (hm : (name, d) ∈ laid) (g f : Nat) (vs : List Value)
    (hg : P.globalNamed name = some g) (hf : (((P.globals[g]?).map (·.type)).bind fun t => flatD P f t d) = some vs) : ∃ T fr, w.heap[g]? = some (.cells vs.toArray T fr) :=
  block_of_var hg (laid_var h name d hm g f vs hg hf)
/-- A table of runs, out of a block. -/
theorem tab_of {w : World} {g : Nat} {T : TypeId} {fr : Nat × Nat} (t : List (Nat × Nat)) (h : w.heap[g]? = some (.cells (t.flatMap fun p => [Value.int .i64 p.1, Value.int .i64 p.2]).toArray T fr)) : Tab w g t := by
  intro i p hp
  have key : ∀ (t : List (Nat × Nat)) (i : Nat) (p : Nat × Nat), t[i]? = some p → (t.flatMap fun p => [Value.int .i64 p.1, Value.int .i64 p.2])[i * 2]? = some (.int .i64 p.1) ∧ (t.flatMap fun p => [Value.int .i64 p.1, Value.int .i64 p.2])[i * 2 + 1]? = some (.int .i64 p.2) := by
    intro t
    induction t with
    | nil => intro i p h; simp at h
    | cons x t ih =>
      intro i p h
      cases i with
      | zero => simp at h; subst h; exact ⟨rfl, rfl⟩
      | succ i =>
        have := ih i p (by simpa using h)
        rw [show (i + 1) * 2 = i * 2 + 2 by omega]
        simpa [List.flatMap_cons] using this
  have := key t i p hp
  rw [cell_of _ h, cell_of _ h, List.getElem?_toArray, List.getElem?_toArray]
  exact this
/-- The cells of a datum, whatever its type. -/
def flatV : Nat → DataW Unit → List Value
  | f + 1, .lit (.int k n) => [.int k n]
  | f + 1, .lit (.string l) => [.string ⟨l.toArray⟩]
  | f + 1, .agg ds => ds.flatMap (flatV f)
  | _, _ => []
def layObj (vs : Array Value) : Obj → Obj
  | .cells _ t frozen => .cells vs t frozen
  | o => o
def layHeap (l : List (Nat × DataW Unit)) (h : Array Obj) : Array Obj := l.foldl (fun h x => h.modify x.1 (layObj (flatV 8 x.2).toArray)) h
end Go.Proofs.YthihkbcdihochaaGreatDoor
/- A witness with slices, unicode.CaseRanges among them. -/
namespace Go.Proofs.YthihkbcdihochaaGreatDoor
open Go.ChangeShapes Go.WideShapes Go.ChangeAt Go.RowKit
set_option linter.unusedVariables false
theorem LaidVars_split {P : Program} {w : World} : ∀ {l l' : List (String × DataW Unit)} {ps : List MemPlace}, DataW.LaidVars P w (l ++ l') ps → ∃ p p', DataW.LaidVars P w l p ∧ DataW.LaidVars P w l' p' ∧ ps = p ++ p'
  | [], l', ps, h => ⟨[], ps, rfl, h, rfl⟩
  | (n, d) :: r, l', ps, h => by
    obtain ⟨g, t, cs, fuel, p, q, h1, h2, h3, h4, h5, rfl⟩ := h
    obtain ⟨p1, p2, g1, g2, rfl⟩ := LaidVars_split h5
    exact ⟨_, p2, ⟨g, t, cs, fuel, p, p1, h1, h2, h3, h4, g1, rfl⟩, g2, by simp [List.append_assoc]⟩
/-- The last of the listed may stand anywhere. -/
theorem laidMet_move {P : Program} {w : World} {a b : List (String × DataW Unit)} {x : String × DataW Unit} (h : laidMet P (a ++ b ++ [x]) w) : laidMet P (a ++ x :: b) w := by
  obtain ⟨ps, hv, hn, hr⟩ := h
  obtain ⟨p1, px, h1, hx, rfl⟩ := LaidVars_split hv
  obtain ⟨pa, pb, ha, hb, rfl⟩ := LaidVars_split h1
  have hperm : (pa ++ pb ++ px).Perm (pa ++ (px ++ pb)) := by
    rw [List.append_assoc]
    exact List.Perm.append_left _ List.perm_append_comm
  refine ⟨pa ++ (px ++ pb), ?_, hperm.nodup_iff.1 hn, fun bb off hm => hr bb off (hperm.mem_iff.2 hm)⟩
  exact Go.Proofs.LaidVars_append ha (Go.Proofs.LaidVars_append (l := [x]) hx hb)
def putRows (N : Nat) : Nat → List (Nat × TypeId × Array Value × Nat) → Array Obj → Array Obj
  | _, [], h => h
  | i, (g, _, _, n) :: r, h => putRows N (i + 1) r (h.modify g (layObj #[.slice (some ⟨N + i, 0, none⟩) n n]))
/-- A world for a witness: the settled one, with a block more for each listed slice, the listed variables' blocks holding what is listed. -/
noncomputable def laidWorldC (l : List (Nat × DataW Unit)) (sl : List (Nat × TypeId × Array Value × Nat)) (os : Os) : World :=
  { World.holding Tryz.prog os ⟨(sl.map fun x => Obj.cells x.2.2.1 x.2.1).toArray, #[], []⟩ with heap := putRows (World.settled Tryz.prog os).heap.size 0 sl (layHeap l (World.holding Tryz.prog os ⟨(sl.map fun x => Obj.cells x.2.2.1 x.2.1).toArray, #[], []⟩).heap) }
theorem case_same : Go.Pinned.caseRanges = Lib.caseData := by kernel_rfl
theorem laidMet_case {w : World} {a b : List (String × DataW Unit)} (fuel : Nat)
    (h : (DataW.laidRun Tryz.prog w fuel ((a ++ b).map (·.1))).map (·.1) = some (a ++ b))
    (hn : (DataW.laidRun Tryz.prog w fuel ((a ++ b).map (·.1))).map (fun x => nodupB (x.2.map MemPlace.codeOf)) = some true)
    (hr : (DataW.laidRun Tryz.prog w fuel ((a ++ b).map (·.1))).map (fun x => laidRowsB Tryz.prog w x.2) = some true)
    (R : Nat) (hgR : 16 ≠ R)
    (hoff : (DataW.laidRun Tryz.prog w fuel ((a ++ b).map (·.1))).map (fun x => x.2.all fun p => p.block != 16 && p.block != R) = some true)
    (hvar : w.heap[16]? = some (.cells #[.slice (some ⟨R, 0, none⟩) 336 336] 353 (0, 0)))
    (hblk : w.heap[R]? = some (.cells Lib.caseCells5 358 (0, 0))) :
    laidMet Tryz.prog (a ++ ("unicode.CaseRanges", Go.Pinned.caseRanges) :: b) w := by
  rw [case_same]
  exact laidMet_move (laidMet_with_case (ρ := ⟨Tryz.lays274_ren.f, Tryz.lays274_ren.t, fun _ => 16⟩) { Tryz.lays274 with } (by kernel_rfl) ⟨by kernel_rfl, by kernel_rfl, by kernel_rfl, by kernel_rfl, by kernel_rfl, by kernel_rfl⟩ fuel h hn hr R _ hgR hoff (by rw [show Lib.caseA.size = 336 by kernel_rfl]; exact hvar) hblk)
end Go.Proofs.YthihkbcdihochaaGreatDoor
