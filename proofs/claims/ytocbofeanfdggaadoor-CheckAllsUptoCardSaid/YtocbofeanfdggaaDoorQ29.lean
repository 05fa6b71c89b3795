/- Texts of ours, joined: CkC. -/
import Derived.Test.YtocbofeanfdggaaDoorRows
import Derived.WalkKit
import Derived.ProofKit
import Derived.OpenShut
import Derived.ShutString
import Derived.ChangeOld
import Derived.Below
import Derived.BigQuiet
import Derived.Deep.QuietTactic
import Derived.Lib.Hide
import Derived.Deep.RegionHeld3
import Derived.Lib.SlBytesConst
import Derived.Laws.CopyOwn
import Derived.Laws.CopyRow
import Derived.Lib.Bytes
import Derived.Deep.LoopGhost
import Derived.Deep.DeepFit
import Derived.Deep.DeepMust
import Derived.WalkSpells
import Derived.WalkLawsBesides
import Derived.Maps.OwnOps
import Derived.Maps.OwnSet
import Derived.Maps.Views
import Derived.Laws.EntriesVeiled
import Derived.Laws.Rows
import Derived.Maps.AppendAt
import Derived.Lib.SmallJoins
import Derived.Deep.AppendLies
import Derived.DeepKeys4
import Derived.MapViews
import Derived.Maps.Keyed
import Derived.WideKeyEntry
import Derived.Deep.RegionWith
import Derived.Test.YtocbofeanfdggaaDoorQ1
import Derived.Test.YtocbofeanfdggaaDoorQ2
import Derived.Test.YtocbofeanfdggaaDoorQ3
import Derived.Test.YtocbofeanfdggaaDoorQ4
import Derived.Test.YtocbofeanfdggaaDoorQ5
import Derived.Test.YtocbofeanfdggaaDoorQ6
import Derived.Test.YtocbofeanfdggaaDoorQ11
import Derived.Test.YtocbofeanfdggaaDoorQ12
import Derived.Test.YtocbofeanfdggaaDoorQ13
import Derived.Test.YtocbofeanfdggaaDoorQ14
import Derived.Test.YtocbofeanfdggaaDoorQ17
import Derived.Test.YtocbofeanfdggaaDoorQ18
import Derived.Test.YtocbofeanfdggaaDoorQ20
import Derived.Test.YtocbofeanfdggaaDoorQ24
import Derived.Test.YtocbofeanfdggaaDoorQ25
import Derived.Test.YtocbofeanfdggaaDoorQ26
import Derived.Test.YtocbofeanfdggaaDoorQ27
import Derived.Test.YtocbofeanfdggaaDoorQ28
/- check.One, next, Check, Right. -/
namespace Go.Proofs.YtocbofeanfdggaaDoor
open Go.ChangeShapes Go.WideShapes Go.ChangeAt Go.RowKit
set_option linter.unusedVariables false
theorem names_le {b : Nat} {v : EvV} (h : EvLe b v) : ∀ x ∈ namesE v.e, x.1.length ≤ b ∧ x.2.length ≤ b := by
  intro x hx
  have ha : ∀ x ∈ namesA v.e.ats, x.1.length ≤ b ∧ x.2.length ≤ b := fun x hx => by
    obtain ⟨a, ha, rfl⟩ := List.mem_map.1 hx
    exact ⟨(h.ats a ha).1, (h.ats a ha).2.1⟩
  unfold namesE at hx
  split at hx
  · exact ha x hx
  · rcases List.mem_cons.1 hx with rfl | hx
    · exact ⟨h.sp, h.lo⟩
    · exact ha x hx
theorem rule_one (e : EvT) : ruleFrom (partsB e) (namedB (namesE e)) (textsB e) (shortB (namesE e)) (spacedB e) 0 = oneE e := rfl
/-- check.One, of an event whose parts are short. -/
theorem ckOne5_c (k : Int) (sp lo tx : List UInt8) (A : Option Addr) (n cap : Nat) (ats : List (List UInt8 × List UInt8 × List UInt8)) (w : World) (h : RRd cA 3 w w.heap.size A n cap ats) (hle : EvLe 5000 ⟨⟨k, sp, lo, ats, tx⟩, A, n, cap⟩) (hW : WC w) :
    Calls Tryd.prog 13 #[.agg #[.int .i64 k, .string ⟨sp.toArray⟩, .string ⟨lo.toArray⟩, .slice A n cap, .string ⟨tx.toArray⟩]] w fun e w' => e = .returned (.int .i64 (oneE ⟨k, sp, lo, ats, tx⟩ : Nat)) ∧ Below w.heap.size w w' := by
  rw [← rule_one]
  have hn : n ≤ 5000 := hle.n
  have hnm := names_le hle
  have hup : ∀ W, Below w.heap.size w W → RRd cA 3 W W.heap.size A n cap ats := fun W hb => (h.below hb).more hb.size
  refine ckOne_c k sp lo tx A n cap _ _ _ _ _ w (fun W hb => parts_c k sp lo tx A n cap ats W h.len) (fun W hb => ?_) (fun W hb => ?_) (fun W hb => ?_) (fun W hb => ?_)
  · exact named_c k sp lo tx A n cap ats W (hup W hb) (by omega) (hW.below hb).tabs (hW.below hb).put.forms fun x hx => by have := (hnm x hx).2; omega
  · exact texts_c k sp lo tx A n cap ats W (hup W hb) (by omega) (hW.below hb) hle.tx hle.lo (fun x hx => by have := (hnm x hx).1; omega) (fun x hx => by have := (hle.ats x hx).2.2; omega)
  · exact short_c k sp lo tx A n cap ats W (hup W hb) (by omega)
  · exact spaced_c k sp lo tx A n cap ats W (hup W hb) (by omega) fun a ha => by
      have h1 := (hle.ats a ha).1
      have h2 := (hle.ats a ha).2.1
      exact ⟨by show a.1.length ≤ 1000000; omega, by show a.2.1.length ≤ 1000000; omega⟩
theorem next_c (sb base : Nat) (sv : Value) (op : List (List UInt8 × List UInt8)) (root text : Bool) (k : Int) (sp lo tx : List UInt8) (A : Option Addr) (n cap : Nat) (ats : List (List UInt8 × List UInt8 × List UInt8)) (W : World) (hq : W.heap[sb]? = some (.cells #[sv, .bool root, .bool text] 76)) (ho : OwnN W base sv op) (hsb : sb < base) (hbW : base ≤ W.heap.size) (hop : op.length ≤ 1000000) :
    Calls Tryd.prog 36 #[.pointer (some ⟨sb, 0, none⟩), .agg #[.int .i64 k, .string ⟨sp.toArray⟩, .string ⟨lo.toArray⟩, .slice A n cap, .string ⟨tx.toArray⟩]] W (NextPost sb base W (nextE op root text ⟨k, sp, lo, ats, tx⟩)) := by
  unfold nextE
  by_cases h1 : k = 1
  · subst h1
    rw [if_pos rfl]
    cases hr : (op.isEmpty && root) with
    | true => exact next1a sb base sv op root text 1 sp lo tx A n cap W hq ho hsb hbW hop hr
    | false => exact next1b sb base sv op root text 1 sp lo tx A n cap W hq ho hsb hbW hop hr
  · rw [if_neg h1]
    by_cases h2 : k = 2
    · subst h2
      rw [if_pos rfl]
      rcases List.eq_nil_or_concat op with rfl | ⟨op2, s, rfl⟩
      · exact next2a sb base sv [] root text 2 sp lo tx A n cap W hq ho hsb hbW hop rfl
      · rw [List.concat_eq_append] at *
        have hop2 : op2.length ≤ 1000000 := by rw [List.length_append] at hop; omega
        by_cases hs : s = (sp, lo)
        · subst hs
          rw [if_pos (by simp), List.dropLast_concat]
          exact next2b sb base sv op2 root text 2 sp lo tx A n cap W hq ho hsb hbW hop2
        · rw [if_neg (by simpa using hs)]
          exact next2c sb base sv op2 s root text 2 sp lo tx A n cap W hq ho hsb hbW hop2 hs
    · rw [if_neg h2]
      by_cases h3 : k = 3
      · subst h3
        rw [if_pos rfl]
        by_cases he : op = []
        · rw [if_pos (by rw [he]; rfl)]
          exact next3a sb base sv op root text 3 sp lo tx A n cap W hq ho hsb hbW hop he
        · have hne : op.isEmpty = false := by simpa using he
          cases text with
          | true =>
            rw [if_pos (by simp)]
            exact next3b sb base sv op root true 3 sp lo tx A n cap W hq ho hsb hbW hop he rfl
          | false =>
            rw [if_neg (by rw [hne]; simp)]
            exact next3c sb base sv op root false 3 sp lo tx A n cap W hq ho hsb hbW hop he rfl
      · rw [if_neg h3]
        exact next9 sb base sv op root text k sp lo tx A n cap W hq ho hsb hbW hop h1 h2 h3
theorem next_len {op op' : List (List UInt8 × List UInt8)} {root text root' text' : Bool} {e : EvT} (h : nextE op root text e = some (op', root', text')) : op'.length ≤ op.length + 1 := by
  unfold nextE at h
  repeat' split at h
  all_goals first
    | (cases h; done)
    | (cases h; simp; done)
    | (cases h; simp; omega)
set_option maxRecDepth 100000 in
set_option maxHeartbeats 8000000 in
theorem check_c (A : Option Addr) (n cap : Nat) (vs : List EvV) (w : World) (h : ERd w w.heap.size A n cap vs) (hm : n ≤ 100) (hle : ∀ v ∈ vs, EvLe 5000 v) (hW : WC w) :
    Calls Tryd.prog 15 #[.slice A n cap] w fun e w' => e = .returned (.tuple #[.int .i64 ((checkE (vs.map EvV.e)).1 : Nat), .int .i64 ((checkE (vs.map EvV.e)).2 : Nat)]) ∧ Below w.heap.size w w' := by
  have HP : Hid (∀ W, Below w.heap.size w W → ERd W W.heap.size A n cap vs) := Lib.hid fun W hb => (h.below hb).more hb.size
  have HLN : Hid (vs.length = n) := Lib.hid h.row.len
  have HW : Hid (∀ W, Below w.heap.size w W → WC W) := Lib.hid fun W hb => hW.below hb
  have HE := Lib.hid hle
  obtain ⟨R1, R2, hR⟩ : ∃ a b, checkE (vs.map EvV.e) = (a, b) := ⟨_, _, rfl⟩
  rw [hR]
  have HR0 : Hid ((R1, R2) = checkR [] false false ((vs.drop 0).map EvV.e) 0) := Lib.hid hR.symm
  have J0 := Lib.hid (CJ.start 76 w #[.slice none 0 0, .bool false, .bool false])
  have HSZ : Hid (w.heap.size + 1 ≤ (w.alloc (.cells #[.slice none 0 0, .bool false, .bool false] 76)).heap.size) := Lib.hid (by simp)
  clear h hle hW hR
  go_enter Tryd.func15, Tryd.ntmps15
  go_wp2
  go_loopg [12] (n) (fun g i wr => ∃ (t : Nat) (op : List (List UInt8 × List UInt8)) (root text : Bool) (sv : Value), i = .int .i64 (t : Int) ∧ t ≤ n ∧ Hid (g + t = n) ∧ Hid ((R1, R2) = checkR op root text ((vs.drop t).map EvV.e) t) ∧ Hid (Below w.heap.size w wr) ∧ Hid (wr.heap[w.heap.size]? = some (.cells #[sv, .bool root, .bool text] 76)) ∧ Hid (OwnN wr (w.heap.size + 1) sv op) ∧ Hid (op.length ≤ t) ∧ Hid (w.heap.size + 1 ≤ wr.heap.size))
  case atStart => exact ⟨0, [], false, false, _, rfl, Nat.zero_le _, Lib.hid rfl, HR0, Lib.hid J0.out.1, Lib.hid J0.out.2, Lib.hid (OwnN.start _ _), Lib.hid (Nat.zero_le _), HSZ⟩
  case round =>
    obtain ⟨t, op, root, text, sv, rfl, ht, hg, HA, HB, HQ, HO, HOL, HS⟩ := hrel
    have ht0 : (0 : Int) ≤ (t : Int) := by omega
    have ht9 : (t : Int) ≤ 100 := by omega
    clear HR0 J0 HSZ
    by_cases htn : t < n
    · have hti : (t : Int) < (n : Int) := by omega
      obtain ⟨b1, o1, x, rfl, hb1, hx, hc1⟩ := (HP.out _ HB.out).row.cell htn
      have hmem := List.mem_of_getElem? hx
      have hex := HE.out x hmem
      have hrx := (HP.out _ HB.out).ats x hmem
      have hdr : vs.drop t = x :: vs.drop (t + 1) := by
        have hl := (List.getElem?_eq_some_iff.1 hx).1
        have he : vs[t] = x := by rw [List.getElem?_eq_getElem hl] at hx; exact Option.some.inj hx
        rw [List.drop_eq_getElem_cons hl, he]
      have hA := HA.out
      rw [hdr, List.map_cons, checkR] at hA
      obtain ⟨⟨k, sp, lo, ats, tx⟩, XA, xn, xc⟩ := x
      have y0 : wr.cell? ⟨b1, o1 + t * 5, none⟩ = some (.int .i64 k) := by rw [show o1 + t * 5 = o1 + (t * 5 + 0) by omega]; exact hc1 0 _ rfl
      have y1 : wr.cell? ⟨b1, o1 + t * 5 + 1, none⟩ = some (.string ⟨sp.toArray⟩) := by rw [show o1 + t * 5 + 1 = o1 + (t * 5 + 1) by omega]; exact hc1 1 _ rfl
      have y2 : wr.cell? ⟨b1, o1 + t * 5 + 2, none⟩ = some (.string ⟨lo.toArray⟩) := by rw [show o1 + t * 5 + 2 = o1 + (t * 5 + 2) by omega]; exact hc1 2 _ rfl
      have y3 : wr.cell? ⟨b1, o1 + t * 5 + 3, none⟩ = some (.slice XA xn xc) := by rw [show o1 + t * 5 + 3 = o1 + (t * 5 + 3) by omega]; exact hc1 3 _ rfl
      have y4 : wr.cell? ⟨b1, o1 + t * 5 + 4, none⟩ = some (.string ⟨tx.toArray⟩) := by rw [show o1 + t * 5 + 4 = o1 + (t * 5 + 4) by omega]; exact hc1 4 _ rfl
      have ka := (Below.refl wr.heap.size wr).alloc (Nat.le_refl _) (.cells #[.int .i64 k, .string ⟨sp.toArray⟩, .string ⟨lo.toArray⟩, .slice XA xn xc, .string ⟨tx.toArray⟩] 40)
      have JE := Lib.hid (CJ.start 40 wr #[.int .i64 k, .string ⟨sp.toArray⟩, .string ⟨lo.toArray⟩, .slice XA xn xc, .string ⟨tx.toArray⟩])
      have C1 := Lib.hid (ckOne5_c k sp lo tx XA xn xc ats _ (hrx.up ka) hex (HW.out _ (HB.out.trans (ka.mono HB.out.size))))
      have HA2 := Lib.hid hA
      have HKA := Lib.hid ka
      have hnx : ∀ W, Below wr.heap.size wr W → Calls Tryd.prog 36 #[.pointer (some ⟨w.heap.size, 0, none⟩), .agg #[.int .i64 k, .string ⟨sp.toArray⟩, .string ⟨lo.toArray⟩, .slice XA xn xc, .string ⟨tx.toArray⟩]] W (NextPost w.heap.size (w.heap.size + 1) W (nextE op root text ⟨k, sp, lo, ats, tx⟩)) := fun W hb =>
        next_c w.heap.size (w.heap.size + 1) sv op root text k sp lo tx XA xn xc ats W (by rw [hb.block _ (by have := HS.out; omega)]; exact HQ.out) (HO.out.kept hb) (Nat.lt_succ_self _) (by have := HS.out; have := hb.size; omega) (by have := HOL.out; omega)
      have HNX := Lib.hid hnx
      clear hb1 hx hc1 hdr hA HA hmem hex hrx ka hnx
      simp only at HA2
      obtain ⟨er, her⟩ : ∃ q, oneE ⟨k, sp, lo, ats, tx⟩ = q := ⟨_, rfl⟩
      obtain ⟨nx, hnx⟩ : ∃ q, nextE op root text ⟨k, sp, lo, ats, tx⟩ = q := ⟨_, rfl⟩
      have HNL : Hid (∀ op' root' text', nx = some (op', root', text') → op'.length ≤ op.length + 1) := Lib.hid fun op' root' text' e => next_len (hnx.trans e)
      rw [her] at C1 HA2
      rw [hnx] at HNX HA2
      clear her hnx
      go_wp2_with fail
      refine C1.out.mono ?_
      rintro e w2 ⟨rfl, hb2⟩
      have JE2 := Lib.hid (JE.out.kept hb2)
      have HB2 := Lib.hid (HKA.out.trans (hb2.mono HKA.out.size))
      have v0 := cell_of 0 JE2.out.2
      have v1 := cell_of 1 JE2.out.2
      have v2 := cell_of 2 JE2.out.2
      have v3 := cell_of 3 JE2.out.2
      have v4 := cell_of 4 JE2.out.2
      have HBW := Lib.hid (HB.out.trans (HB2.out.mono HB.out.size))
      have C2 := Lib.hid (HNX.out w2 HB2.out)
      clear hb2 JE C1 y0 y1 y2 y3 y4 HNX
      by_cases h0 : er = 0
      · subst h0
        have HA3 := Lib.hid (HA2.out.trans (if_neg (by simp)))
        clear HA2
        go_wp2_with fail
        refine C2.out.mono ?_
        rintro e w3 ⟨hb3, hno, hyes⟩
        have HB3 := Lib.hid (HBW.out.trans hb3)
        cases nx with
        | none =>
          obtain rfl := hno rfl
          have HA4 := Lib.hid HA3.out
          clear hno hyes hb3 HA3
          simp only at HA4
          go_wp2
          go_ret2
          have he := HA4.out
          cases he
          exact ⟨rfl, HB3.out⟩
        | some r =>
          obtain ⟨op', root', text'⟩ := r
          obtain ⟨rfl, sv', hq', ho'⟩ := hyes op' root' text' rfl
          have HQ' := Lib.hid hq'
          have HO' := Lib.hid ho'
          have HS' : Hid (w.heap.size + 1 ≤ w3.heap.size) := Lib.hid (by have := HS.out; have := HB2.out.size; have := hb3.size; omega)
          have HL' := Lib.hid (HNL.out op' root' text' rfl)
          have HA4 := Lib.hid HA3.out
          clear hno hyes hb3 HA3 hq' ho'
          simp only at HA4
          go_wp2
          go_roundg (n - (t + 1))
          case measure => have := hg.out; omega
          case rel => exact ⟨t + 1, op', root', text', sv', by go_num, by omega, Lib.hid (by have := hg.out; omega), HA4, HB3, HQ', HO', Lib.hid (by have := HL'.out; have := HOL.out; omega), HS'⟩
      · have hne : ((er : Int) != 0) = true := by simp; omega
        have HA3 := Lib.hid (HA2.out.trans (if_pos (by simpa using h0)))
        clear HA2 h0
        go_wp2
        go_ret2
        have he := HA3.out
        cases he
        exact ⟨rfl, HBW.out⟩
    · have hti : ¬ (t : Int) < (n : Int) := by omega
      have hA := HA.out
      rw [List.drop_of_length_le (by rw [HLN.out]; omega), List.map_nil, checkR] at hA
      have HA2 := Lib.hid hA
      obtain ⟨A9, c9, rfl⟩ := HO.out.form
      have x0 := cell_of 0 HQ.out
      have x1 := cell_of 1 HQ.out
      obtain rfl : t = n := by omega
      clear hA HA HO
      cases op with
      | nil =>
        cases root
        all_goals
          go_wp2
          go_ret2
          have he := HA2.out
          cases he
          exact ⟨rfl, HB.out⟩
      | cons a tl =>
        have hp : (0 : Int) < (((a :: tl).length : Nat) : Int) := by simp only [List.length_cons]; omega
        have HA3 : Hid ((R1, R2) = (t, 7)) := Lib.hid (by rw [HA2.out]; rfl)
        clear HA2 HOL
        generalize (a :: tl).length = m at *
        go_wp2
        go_ret2
        have he := HA3.out
        cases he
        exact ⟨rfl, HB.out⟩
theorem right_c (A : Option Addr) (n cap : Nat) (vs : List EvV) (w : World) (h : ERd w w.heap.size A n cap vs) (hm : n ≤ 100) (hle : ∀ v ∈ vs, EvLe 5000 v) (hW : WC w) :
    Calls Tryd.prog 17 #[.slice A n cap] w fun e w' => e = .returned (.bool (((checkE (vs.map EvV.e)).2 : Int) == 0)) ∧ Below w.heap.size w w' := by
  have C1 := Lib.hid (check_c A n cap vs w h hm hle hW)
  clear h hm hle hW
  generalize checkE (vs.map EvV.e) = R at *
  obtain ⟨R1, R2⟩ := R
  simp only at C1 ⊢
  go_enter Tryd.func17, Tryd.ntmps17
  go_wp2_with fail
  refine C1.out.mono ?_
  rintro e w1 ⟨rfl, hb⟩
  have HB := Lib.hid hb
  clear hb C1
  go_wp2
  go_ret
  exact ⟨rfl, HB.out⟩
end Go.Proofs.YtocbofeanfdggaaDoor
