/- Tags: what is read, what is written, and the walks of both; no condition but those that each theorem states. -/
import Derived.Test.YtpblphddpcogcaaDoorRows
import Derived.WalkKit
import Derived.ProofKit
import Derived.OpenShut
import Derived.ShutString
import Derived.ChangeOld
import Derived.Below
import Derived.BigQuiet
import Derived.Deep.QuietTactic
import Derived.Lib.Hide
import Derived.Deep.RegionHeld3
import Derived.Lib.SlBytesConst
import Derived.Laws.CopyOwn
import Derived.Laws.CopyRow
import Derived.Lib.Bytes
import Derived.Deep.LoopGhost
import Derived.Deep.DeepFit
import Derived.Deep.DeepMust
import Derived.WalkSpells
import Derived.WalkLawsBesides
import Derived.Laws.EntriesVeiled
import Derived.Laws.Rows
import Derived.Maps.OwnOps
import Derived.Maps.Views
import Derived.Laws.RangeString
import Derived.Laws.Runes
import Derived.LoopN
import Derived.Laws.RangeAny
import Derived.Maps.OwnSet
import Derived.Test.YtpblphddpcogcaaDoorBase
import Derived.Test.YtpblphddpcogcaaDoorCharPlain
import Derived.Test.YtpblphddpcogcaaDoorChars1
import Derived.Test.YtpblphddpcogcaaDoorUtf1
import Derived.Test.YtpblphddpcogcaaDoorUtf2
import Derived.Test.YtpblphddpcogcaaDoorUtf3
import Derived.Test.YtpblphddpcogcaaDoorName1
import Derived.Test.YtpblphddpcogcaaDoorName2
import Derived.Test.YtpblphddpcogcaaDoorName3
import Derived.Test.YtpblphddpcogcaaDoorNameA
import Derived.Test.YtpblphddpcogcaaDoorCref1
import Derived.Test.YtpblphddpcogcaaDoorLitP
import Derived.Test.YtpblphddpcogcaaDoorLit4
import Derived.Test.YtpblphddpcogcaaDoorBlank
import Derived.Test.YtpblphddpcogcaaDoorPub
import Derived.Test.YtpblphddpcogcaaDoorMiscP
import Derived.Test.YtpblphddpcogcaaDoorNum
import Derived.Test.YtpblphddpcogcaaDoorShelf
import Derived.Test.YtpblphddpcogcaaDoorStr
import Derived.Test.YtpblphddpcogcaaDoorRef1
import Derived.Test.YtpblphddpcogcaaDoorRef7
import Derived.Test.YtpblphddpcogcaaDoorRef8
import Derived.Test.YtpblphddpcogcaaDoorBits
import Derived.Test.YtpblphddpcogcaaDoorMisc1
import Derived.Test.YtpblphddpcogcaaDoorLit5
import Derived.Test.YtpblphddpcogcaaDoorPlainP
import Derived.Test.YtpblphddpcogcaaDoorLit2
import Derived.Test.YtpblphddpcogcaaDoorWhole
import Derived.Test.YtpblphddpcogcaaDoorBuild
import Derived.Test.YtpblphddpcogcaaDoorBuild2
namespace Go.Proofs.YtpblphddpcogcaaDoor
open Go.ChangeShapes Go.WideShapes Go.ChangeAt Go.RowKit
set_option linter.unusedVariables false
/-- An attribute: its name, its value. -/
abbrev PairL := List UInt8 × List UInt8
/-- What is read of an attribute at a place: it, the place behind, the error. -/
def pairOut (l : List UInt8) (i : Nat) : PairL × Nat × Nat :=
  if (nameOut l i).2.2 = 0 then
    if l[blankTo l (nameOut l i).2.1]? = some 61 then
      (((nameOut l i).1, (strictAt 60 l (blankTo l (blankTo l (nameOut l i).2.1 + 1) : Nat)).1), (strictAt 60 l (blankTo l (blankTo l (nameOut l i).2.1 + 1) : Nat)).2.1, (strictAt 60 l (blankTo l (blankTo l (nameOut l i).2.1 + 1) : Nat)).2.2)
    else (([], []), 0, 7)
  else (([], []), 0, (nameOut l i).2.2)
def hasN (acc : List PairL) (s : List UInt8) : Bool := acc.any fun p => decide (p.1 = s)
/-- Do the attributes end there? -/
def stopB (l : List UInt8) (i t : Nat) : Bool := decide (i = t) || (match l[i]? with | none => true | some c => decide (c = 47) || decide (c = 62))
def pairsR (l : List UInt8) : Nat → List PairL → Nat → List PairL × Nat × Nat
  | 0, _, _ => ([], 0, 0)
  | f + 1, acc, t => if stopB l (blankTo l t) t = true then (acc, t, 0)
    else if (pairOut l (blankTo l t)).2.2 ≠ 0 then ([], 0, (pairOut l (blankTo l t)).2.2)
    else if hasN acc (pairOut l (blankTo l t)).1.1 = true then ([], 0, 12)
    else pairsR l f (acc ++ [(pairOut l (blankTo l t)).1]) (pairOut l (blankTo l t)).2.1
/-- What is read of attributes at a place. -/
def pairsOut (l : List UInt8) (k : Nat) : List PairL × Nat × Nat := pairsR l (l.length + 1) [] k
theorem pairs_stop {l : List UInt8} {f t : Nat} {acc : List PairL} (h : stopB l (blankTo l t) t = true) : pairsR l (f + 1) acc t = (acc, t, 0) := by rw [pairsR, if_pos h]
theorem pairs_bad {l : List UInt8} {f t : Nat} {acc : List PairL} (h : stopB l (blankTo l t) t = false) {e : Nat} (he : (pairOut l (blankTo l t)).2.2 = e) (h0 : e ≠ 0) : pairsR l (f + 1) acc t = ([], 0, e) := by
  rw [pairsR, if_neg (by simp [h]), if_pos (by rw [he]; exact h0), he]
theorem pairs_twice {l : List UInt8} {f t : Nat} {acc : List PairL} (h : stopB l (blankTo l t) t = false) (he : (pairOut l (blankTo l t)).2.2 = 0) (h0 : hasN acc (pairOut l (blankTo l t)).1.1 = true) : pairsR l (f + 1) acc t = ([], 0, 12) := by
  rw [pairsR, if_neg (by simp [h]), if_neg (by simp [he]), if_pos h0]
theorem pairs_more {l : List UInt8} {f t : Nat} {acc : List PairL} (h : stopB l (blankTo l t) t = false) (he : (pairOut l (blankTo l t)).2.2 = 0) (h0 : hasN acc (pairOut l (blankTo l t)).1.1 = false) :
    pairsR l (f + 1) acc t = pairsR l f (acc ++ [(pairOut l (blankTo l t)).1]) (pairOut l (blankTo l t)).2.1 := by
  rw [pairsR, if_neg (by simp [h]), if_neg (by simp [he]), if_neg (by simp [h0])]
theorem nameOut_ok (l : List UInt8) (k : Nat) (hk : k ≤ l.length) (h : (nameOut l k).2.2 = 0) : k < (nameOut l k).2.1 ∧ (nameOut l k).2.1 ≤ l.length ∧ (nameOut l k).1.length ≤ 1024 := by
  have hle := endL_le l.length isStart isMore (l.drop k)
  rw [List.length_drop] at hle
  unfold nameOut at h ⊢
  simp only at h ⊢
  split
  · rename_i h0; rw [if_pos h0] at h; cases h
  · rename_i h0
    rw [if_neg h0] at h
    split
    · rename_i h1; rw [if_pos h1] at h; cases h
    · rename_i h1
      refine ⟨by simp only; omega, by simp only; omega, ?_⟩
      simp only [List.length_take]
      omega
theorem quotedAt_next2 (l : List UInt8) (p : Nat) (h : (quotedAt l (p : Int)).2.2 = 0) : p < (quotedAt l (p : Int)).2.1 ∧ (quotedAt l (p : Int)).2.1 ≤ l.length := by
  unfold quotedAt at h ⊢
  split
  · rename_i h'
    rw [if_pos h'] at h
    cases h
  · rename_i h'
    rw [if_neg h'] at h
    rw [Int.toNat_natCast] at h ⊢
    unfold quotedOut at h ⊢
    cases hq : l[p]? with
    | none => rw [hq] at h; cases h
    | some q =>
      rw [hq] at h
      simp only at h ⊢
      have hpl : p < l.length := (List.getElem?_eq_some_iff.1 hq).1
      split
      · rename_i h2
        rw [if_pos h2] at h
        unfold quotedQ at h ⊢
        split
        · rename_i h3
          rw [if_pos h3] at h
          cases h
        · rename_i h3
          have := ix_lo q (l.drop (p + 1))
          rw [List.length_drop] at this
          simp only
          omega
      · rename_i h2
        rw [if_neg h2] at h
        cases h
theorem strictAt_next (but : UInt8) (l : List UInt8) (p : Nat) (h : (strictAt but l (p : Int)).2.2 = 0) : p < (strictAt but l (p : Int)).2.1 ∧ (strictAt but l (p : Int)).2.1 ≤ l.length := by
  unfold strictAt at h ⊢
  split
  · rename_i h0; rw [if_pos h0] at h; exact absurd h h0
  · rename_i h0
    rw [if_neg h0] at h
    have h0' : (quotedAt l (p : Int)).2.2 = 0 := by simpa using h0
    split
    · rename_i h1; rw [if_pos h1] at h; cases h
    · rename_i h1
      rw [if_neg h1] at h
      split
      · rename_i h2; rw [if_pos h2] at h; exact absurd h h2
      · exact quotedAt_next2 l p h0'
theorem strictAt_len (but : UInt8) (l : List UInt8) (p : Int) : (strictAt but l p).1.length ≤ l.length := by
  unfold strictAt
  split
  · simp
  · split
    · simp
    · split
      · simp
      · exact quotedAt_le l p
theorem pairOut_ok (l : List UInt8) (i : Nat) (hi : i ≤ l.length) (h : (pairOut l i).2.2 = 0) : i < (pairOut l i).2.1 ∧ (pairOut l i).2.1 ≤ l.length ∧ (pairOut l i).1.1.length ≤ 1024 ∧ (pairOut l i).1.2.length ≤ l.length := by
  unfold pairOut at h ⊢
  split
  · rename_i h0
    rw [if_pos h0] at h
    have hn := nameOut_ok l i hi h0
    have hb := blankTo_le l _ hn.2.1
    split
    · rename_i h1
      rw [if_pos h1] at h
      have hlt := (List.getElem?_eq_some_iff.1 h1).1
      have hb2 := blankTo_le l (blankTo l (nameOut l i).2.1 + 1) (by omega)
      have hs := strictAt_next 60 l _ h
      have hsl := strictAt_len 60 l (blankTo l (blankTo l (nameOut l i).2.1 + 1) : Nat)
      exact ⟨by show i < (strictAt 60 l _).2.1; omega, hs.2, hn.2.2, hsl⟩
    · rename_i h1
      rw [if_neg h1] at h
      cases h
  · rename_i h0
    rw [if_neg h0] at h
    exact absurd h h0
theorem hasN_snoc (acc : List PairL) (p : PairL) (s : List UInt8) : hasN (acc ++ [p]) s = (hasN acc s || decide (p.1 = s)) := by simp [hasN, List.any_append]
/-- An element's begin, as it is written. -/
structure TagL where
  name : List UInt8
  pairs : List PairL
  empty : Bool
def noTag : TagL := ⟨[], [], false⟩
/-- What is read of an element's begin at a place. -/
def openOut (l : List UInt8) (k : Nat) : TagL × Nat × Nat :=
  if l[k]? = some 60 then
    if (nameOut l (k + 1)).2.2 ≠ 0 then (noTag, 0, (nameOut l (k + 1)).2.2)
    else if (pairsOut l (nameOut l (k + 1)).2.1).2.2 ≠ 0 then (noTag, 0, (pairsOut l (nameOut l (k + 1)).2.1).2.2)
    else if [47, 62].isPrefixOf (l.drop (blankTo l (pairsOut l (nameOut l (k + 1)).2.1).2.1)) = true then
      (⟨(nameOut l (k + 1)).1, (pairsOut l (nameOut l (k + 1)).2.1).1, true⟩, blankTo l (pairsOut l (nameOut l (k + 1)).2.1).2.1 + 2, 0)
    else if [62].isPrefixOf (l.drop (blankTo l (pairsOut l (nameOut l (k + 1)).2.1).2.1)) = true then
      (⟨(nameOut l (k + 1)).1, (pairsOut l (nameOut l (k + 1)).2.1).1, false⟩, blankTo l (pairsOut l (nameOut l (k + 1)).2.1).2.1 + 1, 0)
    else (noTag, 0, 7)
  else (noTag, 0, 7)
/-- What is read of an element's end at a place. -/
def closeOut (l : List UInt8) (k : Nat) : List UInt8 × Nat × Nat :=
  if [60, 47].isPrefixOf (l.drop k) = true then
    if (nameOut l (k + 2)).2.2 ≠ 0 then ([], 0, (nameOut l (k + 2)).2.2)
    else if [62].isPrefixOf (l.drop (blankTo l (nameOut l (k + 2)).2.1)) = true then ((nameOut l (k + 2)).1, blankTo l (nameOut l (k + 2)).2.1 + 1, 0)
    else ([], 0, 7)
  else ([], 0, 7)
def tagAt {α : Type} (z : α) (f : List UInt8 → Nat → α × Nat × Nat) (l : List UInt8) (at_ : Int) : α × Nat × Nat := if at_ < 0 ∨ (l.length : Int) < at_ then (z, 0, 3) else f l at_.toNat
theorem pairsR_le (l : List UInt8) : ∀ (f : Nat) (acc : List PairL) (t : Nat), t ≤ l.length → (pairsR l f acc t).2.1 ≤ l.length
  | 0, acc, t, ht => Nat.zero_le _
  | f + 1, acc, t, ht => by
    have hb := blankTo_le l t ht
    cases hs : stopB l (blankTo l t) t with
    | true => rw [pairs_stop hs]; exact ht
    | false =>
      by_cases he : (pairOut l (blankTo l t)).2.2 = 0
      · cases hh : hasN acc (pairOut l (blankTo l t)).1.1 with
        | true => rw [pairs_twice hs he hh]; exact Nat.zero_le _
        | false =>
          rw [pairs_more hs he hh]
          exact pairsR_le l f _ _ (pairOut_ok l _ hb.2 he).2.1
      · rw [pairs_bad hs rfl he]
        exact Nat.zero_le _
theorem pairsOut_le (l : List UInt8) (k : Nat) (hk : k ≤ l.length) : (pairsOut l k).2.1 ≤ l.length := pairsR_le l _ [] k hk
/-- The cells of attributes. -/
def cellsP (ps : List PairL) : List Value := ps.flatMap fun p => [.string ⟨p.1.toArray⟩, .string ⟨p.2.toArray⟩]
theorem cellsP_length (ps : List PairL) : (cellsP ps).length = ps.length * 2 := by
  induction ps with
  | nil => rfl
  | cons p t ih => simp only [cellsP, List.flatMap_cons, List.length_append, List.length_cons, List.length_nil] at ih ⊢; omega
theorem cellsP_snoc (ps : List PairL) (p : PairL) : cellsP (ps ++ [p]) = cellsP ps ++ [.string ⟨p.1.toArray⟩, .string ⟨p.2.toArray⟩] := by simp [cellsP]
theorem cellsP_get : ∀ (ps : List PairL) (i : Nat) (p : PairL), ps[i]? = some p → (cellsP ps)[i * 2]? = some (.string ⟨p.1.toArray⟩) ∧ (cellsP ps)[i * 2 + 1]? = some (.string ⟨p.2.toArray⟩)
  | [], i, p, h => by cases h
  | q :: t, 0, p, h => by simp at h; subst h; exact ⟨rfl, rfl⟩
  | q :: t, i + 1, p, h => by
    have ih := cellsP_get t i p (by simpa using h)
    have e : cellsP (q :: t) = [.string ⟨q.1.toArray⟩, .string ⟨q.2.toArray⟩] ++ cellsP t := rfl
    rw [e, List.getElem?_append_right (by simp; omega), List.getElem?_append_right (by simp; omega)]
    simp only [List.length_cons, List.length_nil]
    rw [show (i + 1) * 2 - 2 = i * 2 by omega, show (i + 1) * 2 + 1 - 2 = i * 2 + 1 by omega]
    exact ih
/-- A row of attributes that can be read. -/
structure PRd (w : World) (B : Nat) (A : Option Addr) (n cap : Nat) (ps : List PairL) : Prop where
  len : ps.length = n
  le : n ≤ cap
  fit : cap ≤ maxLen
  nil : A = none → cap = 0
  at_ : 0 < cap → ∃ b o, A = some ⟨b, o, none⟩ ∧ b < B ∧ ∀ i p, ps[i]? = some p → w.cell? ⟨b, o + i * 2, none⟩ = some (.string ⟨p.1.toArray⟩) ∧ w.cell? ⟨b, o + i * 2 + 1, none⟩ = some (.string ⟨p.2.toArray⟩)
theorem PRd.keep {w w' : World} {B n cap : Nat} {A : Option Addr} {ps : List PairL} (h : PRd w B A n cap ps) (hk : ∀ p : Addr, p.block < B → w'.cell? p = w.cell? p) : PRd w' B A n cap ps :=
  ⟨h.len, h.le, h.fit, h.nil, fun h0 => by
    obtain ⟨b, o, e, hb, hc⟩ := h.at_ h0
    exact ⟨b, o, e, hb, fun i p hp => ⟨(hk ⟨b, _, none⟩ hb).trans (hc i p hp).1, (hk ⟨b, _, none⟩ hb).trans (hc i p hp).2⟩⟩⟩
theorem PRd.more {w : World} {B B' n cap : Nat} {A : Option Addr} {ps : List PairL} (h : PRd w B A n cap ps) (hB : B ≤ B') : PRd w B' A n cap ps :=
  ⟨h.len, h.le, h.fit, h.nil, fun h0 => by
    obtain ⟨b, o, e, hb, hc⟩ := h.at_ h0
    exact ⟨b, o, e, by omega, hc⟩⟩
theorem PRd.below {w w' : World} {B n cap : Nat} {A : Option Addr} {ps : List PairL} (h : PRd w B A n cap ps) (hb : Below B w w') : PRd w' B A n cap ps := h.keep fun p hp => hb.cell hp
theorem PRd.nilR (w : World) (B : Nat) : PRd w B none 0 0 [] := ⟨rfl, Nat.le_refl _, Nat.zero_le _, fun _ => rfl, fun h => absurd h (by omega)⟩
theorem PRd.ofOwn {w : World} {base : Nat} {e : TypeId} {v : Value} {n : Nat} {ps : List PairL} (h : w.ownsRow base e 2 v n (cellsP ps)) : ∃ A c, v = .slice A n c ∧ PRd w w.heap.size A n c ps := by
  obtain ⟨hl, h2 | ⟨g, cap, cur, hv, hg, hh, hn, hc, hs, ht⟩⟩ := h
  · obtain ⟨hv, hn⟩ := h2
    subst hn
    rw [cellsP_length] at hl
    have : ps = [] := List.length_eq_zero_iff.1 (by omega)
    subst this
    exact ⟨none, 0, hv, PRd.nilR w _⟩
  · rw [cellsP_length] at hl
    refine ⟨_, cap, hv, by omega, hn, hc, (fun e => by cases e), fun _ => ⟨g, 0, rfl, lt_of hh, fun i p hp => ?_⟩⟩
    have hi : i < ps.length := (List.getElem?_eq_some_iff.1 hp).1
    have hcp := cellsP_get ps i p hp
    rw [← ht, List.getElem?_take_of_lt (by omega), List.getElem?_take_of_lt (by omega)] at hcp
    rw [cell_of _ hh, cell_of _ hh, Nat.zero_add]
    simpa using hcp
theorem PRd.cell {w : World} {B n cap : Nat} {A : Option Addr} {ps : List PairL} {i : Nat} (h : PRd w B A n cap ps) (hi : i < n) :
    ∃ b o p, A = some ⟨b, o, none⟩ ∧ b < B ∧ ps[i]? = some p ∧ w.cell? ⟨b, o + i * 2, none⟩ = some (.string ⟨p.1.toArray⟩) ∧ w.cell? ⟨b, o + i * 2 + 1, none⟩ = some (.string ⟨p.2.toArray⟩) := by
  obtain ⟨b, o, e, hb, hc⟩ := h.at_ (by have := h.le; omega)
  have hl : i < ps.length := by rw [h.len]; exact hi
  have hp := List.getElem?_eq_getElem hl
  exact ⟨b, o, ps[i], e, hb, hp, (hc i _ hp).1, (hc i _ hp).2⟩
theorem PRd.take {w : World} {B n cap : Nat} {A : Option Addr} {ps : List PairL} {k : Nat} (h : PRd w B A n cap ps) (hk : k ≤ n) : PRd w B A k cap (ps.take k) :=
  ⟨by rw [List.length_take, h.len]; omega, by have := h.le; omega, h.fit, h.nil, fun h0 => by
    obtain ⟨b, o, e, hb, hc⟩ := h.at_ h0
    exact ⟨b, o, e, hb, fun i p hp => hc i p (by rw [List.getElem?_take] at hp; split at hp
                                                 · exact hp
                                                 · cases hp)⟩⟩
theorem results_c3 {P : Program} {fn : Func} {p u v : Tmp} {ty : TypeId} (h : fn.results = #[.cell p ty, .tmp u, .tmp v]) (tmps : Array Value) (w : World) (g : Nat) (t : TypeId) (cs : Array Value) (fr : Nat × Nat) (d : TypeDesc)
    (hp : tmps.getD p undef = .pointer (some ⟨g, 0, none⟩)) (hg : w.heap[g]? = some (.cells cs t fr))
    (hu : P.underlying ty = some d) (hd : (match d with | .struct _ | .array _ _ => true | _ => false) = true) (hi : (P.info? ty).map (·.size) = some cs.size) :
    (results fn tmps).run P w = .ok (.tuple #[.agg cs, tmps.getD u undef, tmps.getD v undef]) w := by
  have hp' : tmps[p]?.getD undef = .pointer (some ⟨g, 0, none⟩) := by simpa using hp
  simp [results, h, hp', asAddr, run_loadVar_row w g t ty cs fr d hg hu hd hi]
/-- While a result lies in a block of its own: below w all as it was, and that block. -/
def CJ (T : TypeId) (w W : World) (rs : Array Value) : Prop := Below w.heap.size w W ∧ W.heap[w.heap.size]? = some (.cells rs T)
theorem CJ.start (T : TypeId) (w : World) (rs : Array Value) : CJ T w (w.alloc (.cells rs T)) rs := ⟨(Below.refl _ _).alloc (Nat.le_refl _) _, hp_new _ _⟩
theorem CJ.kept {T : TypeId} {w W W' : World} {rs : Array Value} (h : CJ T w W rs) (hb : Below W.heap.size W W') : CJ T w W' rs :=
  ⟨h.1.trans (hb.mono h.1.size), by rw [hb.block _ (lt_of h.2)]; exact h.2⟩
theorem CJ.row {T : TypeId} {w W : World} {rs : Array Value} (h : CJ T w W rs) (cs : Array Value) : CJ T w (W.setRow w.heap.size cs) cs := by
  refine ⟨⟨h.1.os, h.1.tape, h.1.output, ?_, fun k hk => ?_⟩, setRow_heap _ _ _ _ _ _ h.2⟩
  · have := h.1.size; simpa [World.setRow] using this
  · rw [setRow_other _ _ _ _ (by omega)]; exact h.1.block k hk
theorem pre_one (a : UInt8) (l : List UInt8) (k : Nat) : [a].isPrefixOf (l.drop k) = decide (l[k]? = some a) := by
  rw [Bool.eq_iff_iff, decide_eq_true_eq]
  constructor
  · intro h
    have := pre_get h 0 (by simp)
    simpa using this
  · intro h
    exact pre_of_get fun i hi => by
      simp at hi
      subst hi
      simpa using h
/-- What stands at a place, as far as a mark is long. -/
theorem pre_short (p l : List UInt8) (k : Nat) : p.isPrefixOf ((l.drop k).take (min l.length (k + p.length) - k)) = p.isPrefixOf (l.drop k) := by
  rw [Bool.eq_iff_iff, List.isPrefixOf_iff_prefix, List.isPrefixOf_iff_prefix]
  constructor
  · intro h; exact h.trans (List.take_prefix _ _)
  · intro h
    have hl := h.length_le
    rw [List.length_drop] at hl
    by_cases hp : p = []
    · subst hp; exact List.nil_prefix
    · have : 0 < p.length := List.length_pos_iff.2 hp
      rw [List.prefix_iff_eq_take] at h ⊢
      rw [List.take_take, show min p.length (min l.length (k + p.length) - k) = p.length by omega]
      exact h
set_option maxRecDepth 100000 in
set_option maxHeartbeats 4000000 in
theorem stands_c (A : Option Addr) (n cap : Nat) (l : List UInt8) (k : Nat) (p : List UInt8) (B : Nat) (w : World) (h : Byt w B A n cap l) (hm : n ≤ 1000000) (hpl : p.length ≤ 1000000) (hk : k ≤ n) :
    Calls Tryd.prog 28 #[.slice A n cap, .int .i64 k, .string ⟨p.toArray⟩] w fun e w' => e = .returned (.bool (p.isPrefixOf (l.drop k))) ∧ w = w' := by
  have hk0 : (0 : Int) ≤ (k : Int) := by omega
  have hk1 : (k : Int) ≤ 1000000 := by omega
  have hn1 : (n : Int) ≤ 1000000 := by omega
  have hp1 : (p.length : Int) ≤ 1000000 := by omega
  have hcap := h.le
  have hln := h.length
  have HP := Lib.hid (pre_short p l k)
  rw [hln] at HP
  have hst := ((h.drop (k := k) hk).take (k := min n (k + p.length) - k) (by omega)).str
  have hx : ∀ W, Calls Tryd.prog 54 #[.string ⟨((l.drop k).take (min n (k + p.length) - k)).toArray⟩, .string ⟨p.toArray⟩] W fun e w' => e = .returned (.bool (p.isPrefixOf ((l.drop k).take (min n (k + p.length) - k)))) ∧ w' = W := fun W => Tryd.strings_HasPrefix ⟨((l.drop k).take (min n (k + p.length) - k)).toArray⟩ ⟨p.toArray⟩ W
  rw [HP.out] at hx
  have CX := Lib.hid hx
  by_cases hc : k + p.length < n
  · have hci : (k : Int) + (p.length : Int) < (n : Int) := by omega
    have hmi : min (n : Int) ((k : Int) + (p.length : Int)) = (k : Int) + (p.length : Int) := by omega
    have hmn : min n (k + p.length) - k = p.length := by omega
    rw [hmn] at hst CX
    have hrf : ∀ w2 : World, (Instr.slice 22 (.slice A n cap) (some (.int .i64 (k : Int))) (some (.int .i64 ((k : Int) + (p.length : Int)))) none).run Tryd.prog w2 = .ok (.slice (cutA A cap k) p.length (cap - k)) w2 := fun w2 => by
      have := run_fromTo (w := w2) A n cap k (k + p.length) (by omega) (by omega)
      rw [show k + p.length - k = p.length by omega, show ((k + p.length : Nat) : Int) = (k : Int) + (p.length : Int) by omega] at this
      exact this
    clear h hcap hln HP hx hc hmn
    generalize (l.drop k).take p.length = q at *
    generalize p.isPrefixOf (l.drop k) = r at *
    go_enter Tryd.func28, Tryd.ntmps28
    go_wp2_with fail
    refine (CX.out _).mono ?_
    rintro e wq ⟨rfl, hwq⟩
    subst hwq
    go_wp2
    go_ret
    exact ⟨rfl, rfl⟩
  · have hci : ¬ (k : Int) + (p.length : Int) < (n : Int) := by omega
    have hmi : min (n : Int) ((k : Int) + (p.length : Int)) = (n : Int) := by omega
    have hmn : min n (k + p.length) - k = n - k := by omega
    rw [hmn] at hst CX
    have hrf : ∀ w2 : World, (Instr.slice 22 (.slice A n cap) (some (.int .i64 (k : Int))) (some (.int .i64 (n : Int))) none).run Tryd.prog w2 = .ok (.slice (cutA A cap k) (n - k) (cap - k)) w2 := fun w2 => run_fromTo (w := w2) A n cap k n (by omega) (by omega)
    clear h hcap hln HP hx hmn
    generalize (l.drop k).take (n - k) = q at *
    generalize p.isPrefixOf (l.drop k) = r at *
    generalize n - k = m at *
    go_enter Tryd.func28, Tryd.ntmps28
    go_wp2_with fail
    refine (CX.out _).mono ?_
    rintro e wq ⟨rfl, hwq⟩
    subst hwq
    go_wp2
    go_ret
    exact ⟨rfl, rfl⟩
/-- What is asked of the world. -/
structure W10 (w : World) : Prop where
  tabs : Tabs w
  forms : Forms w
theorem W10.below {w w' : World} (h : W10 w) (hb : Below w.heap.size w w') : W10 w' := ⟨h.tabs.below hb (h.tabs.low h.forms), h.forms.below hb h.forms.lt⟩
def tpairV (o : PairL × Nat × Nat) : Value := .tuple #[.agg #[.string ⟨o.1.1.toArray⟩, .string ⟨o.1.2.toArray⟩], .int .i64 (o.2.1 : Int), .int .i64 (o.2.2 : Int)]
theorem nameOut_e (l : List UInt8) (k : Nat) : (nameOut l k).2.2 ≤ 11 := by
  unfold nameOut
  simp only
  split
  · simp
  · split <;> simp
set_option maxRecDepth 100000 in
set_option maxHeartbeats 4000000 in
theorem tagPair_c (A : Option Addr) (n cap : Nat) (l : List UInt8) (k : Nat) (w : World) (h : Byt w w.heap.size A n cap l) (hW : W10 w) (hm : n ≤ 40000) (hk : k ≤ n) :
    Calls Tryd.prog 52 #[.slice A n cap, .int .i64 k] w fun e w' => e = .returned (tpairV (pairOut l k)) ∧ Below w.heap.size w w' := by
  have hln := h.length
  have hJ := CJ.start 31 w #[.string ⟨#[]⟩, .string ⟨#[]⟩]
  have hi : (Tryd.prog.info? 31).map (·.size) = some 2 := by kernel_rfl
  obtain ⟨d, hu⟩ := isStruct_of (P := Tryd.prog) (t := 31) (by kernel_rfl)
  have HU := Lib.hid (And.intro hi hu)
  have HK : Hid (∀ W rs, CJ 31 w W rs → Byt W W.heap.size A n cap l ∧ W10 W) := Lib.hid fun W rs hJ => ⟨(h.below hJ.1).more hJ.1.size, hW.below hJ.1⟩
  have c1 := name_c A n cap l k _ (HK.out _ _ hJ).1 (HK.out _ _ hJ).2.forms (HK.out _ _ hJ).2.tabs.n (by omega) hk
  have CB : Hid (∀ t, t ≤ n → ∀ W rs, CJ 31 w W rs → Calls Tryd.prog 27 #[.slice A n cap, .int .i64 (t : Int)] W fun e w' => e = .returned (.int .i64 (blankTo l t)) ∧ W = w') := Lib.hid fun t ht W rs hb => blanks_c A n cap l t _ W (HK.out W rs hb).1 (by omega) ht
  have CS : Hid (∀ t, t ≤ n → ∀ W rs, CJ 31 w W rs → Calls Tryd.prog 28 #[.slice A n cap, .int .i64 (t : Int), .string ⟨#[61]⟩] W fun e w' => e = .returned (.bool (decide (l[t]? = some 61))) ∧ W = w') := Lib.hid fun t ht W rs hb => by
    have := stands_c A n cap l t [61] _ W (HK.out W rs hb).1 (by omega) (by simp) ht
    rwa [pre_one] at this
  have CV : Hid (∀ t : Nat, ∀ W rs, CJ 31 w W rs → Calls Tryd.prog 77 #[.slice A n cap, .int .i64 (t : Int)] W fun e w' => e = .returned (outV (strictAt 60 l (t : Int))) ∧ Below W.heap.size W w') := Lib.hid fun t W rs hb => litValue_c A n cap l t W (HK.out W rs hb).1 (HK.out W rs hb).2.tabs (HK.out W rs hb).2.forms hm
  have hok := nameOut_ok l k (by omega)
  have J0 := Lib.hid hJ
  clear hi hu hJ
  unfold pairOut
  generalize nameOut l k = m at *
  obtain ⟨s, nx, e⟩ := m
  simp only at hok ⊢
  unfold outV at c1
  simp only at c1
  have C1 := Lib.hid c1
  clear c1
  by_cases he : e = 0
  · subst he
    obtain ⟨h1, h2, h3⟩ := hok rfl
    rw [if_pos rfl]
    have c2 := CB.out nx (by omega)
    have hb := blankTo_le l nx h2
    generalize blankTo l nx = b at *
    have c3 := CS.out b (by omega)
    have C2 := Lib.hid c2
    clear c2
    by_cases h61 : l[b]? = some 61
    · rw [if_pos h61]
      have hd : decide (l[b]? = some 61) = true := by simpa using h61
      rw [hd] at c3
      have hlt := (List.getElem?_eq_some_iff.1 h61).1
      have c4 := CB.out (b + 1) (by omega)
      rw [show ((b + 1 : Nat) : Int) = (b : Int) + 1 by omega] at c4
      have C3 := Lib.hid c3
      have C4 := Lib.hid c4
      have C5 := Lib.hid (CV.out (blankTo l (b + 1)))
      have hb0 : (0 : Int) ≤ (b : Int) := by omega
      have hb1 : (b : Int) ≤ 40000 := by omega
      clear c3 c4 CB CS CV HK h hW hln h61 hd hlt hok h1 h2 h3 hb
      generalize blankTo l (b + 1) = d at *
      generalize strictAt 60 l (d : Int) = v at *
      obtain ⟨vs, vn, ve⟩ := v
      unfold outV at C5
      simp only at C5
      go_enter Tryd.func52, Tryd.ntmps52
      go_wp2_with fail
      refine C1.out.mono ?_
      rintro e w1 ⟨rfl, hb⟩
      have J1 := Lib.hid (J0.out.kept hb)
      clear hb
      go_wp2_with fail
      refine (C2.out _ _ J1.out).mono ?_
      rintro e wq ⟨rfl, rfl⟩
      go_wp2_with fail
      refine (C3.out _ _ J1.out).mono ?_
      rintro e wq ⟨rfl, rfl⟩
      go_wp2_with fail
      refine (C4.out _ _ J1.out).mono ?_
      rintro e wq ⟨rfl, rfl⟩
      go_wp2_with fail
      refine (C5.out _ _ J1.out).mono ?_
      rintro e w2 ⟨rfl, hb⟩
      have J2 := Lib.hid (J1.out.kept hb)
      clear hb
      have JF := Lib.hid (J2.out.row #[.string ⟨s.toArray⟩, .string ⟨vs.toArray⟩])
      go_wp2_with (refine wpList_store_row rfl _ _ _ rfl w.heap.size #[.string ⟨s.toArray⟩, .string ⟨vs.toArray⟩] rfl rfl _ _ J2.out.2 (by kernel_rfl) rfl (by kernel_rfl) ?_)
      (try simp only [Exit.inBlock, Exit.then])
      exact bodyPost_ret (results_c3 rfl _ _ w.heap.size _ _ _ _ rfl JF.out.2 HU.out.2 rfl HU.out.1) rfl ⟨rfl, JF.out.1⟩
    · rw [if_neg h61]
      have hd : decide (l[b]? = some 61) = false := by simpa using h61
      rw [hd] at c3
      have C3 := Lib.hid c3
      clear c3 CB CS CV HK h hW hln h61 hd hok h1 h2 h3 hb
      go_enter Tryd.func52, Tryd.ntmps52
      go_wp2_with fail
      refine C1.out.mono ?_
      rintro e w1 ⟨rfl, hb⟩
      have J1 := Lib.hid (J0.out.kept hb)
      clear hb
      go_wp2_with fail
      refine (C2.out _ _ J1.out).mono ?_
      rintro e wq ⟨rfl, rfl⟩
      go_wp2_with fail
      refine (C3.out _ _ J1.out).mono ?_
      rintro e wq ⟨rfl, rfl⟩
      have JF := Lib.hid (J1.out.row #[.string ⟨#[]⟩, .string ⟨#[]⟩])
      go_wp2_with (refine wpList_store_row rfl _ _ _ rfl w.heap.size #[.string ⟨#[]⟩, .string ⟨#[]⟩] rfl rfl _ _ J1.out.2 (by kernel_rfl) rfl (by kernel_rfl) ?_)
      (try simp only [Exit.inBlock, Exit.then])
      exact bodyPost_ret (results_c3 rfl _ _ w.heap.size _ _ _ _ rfl JF.out.2 HU.out.2 rfl HU.out.1) rfl ⟨rfl, JF.out.1⟩
  · rw [if_neg he]
    have hei : ((e : Int) == 0) = false := by simp; omega
    clear CB CS CV HK h hW hln hok he
    go_enter Tryd.func52, Tryd.ntmps52
    go_wp2_with fail
    refine C1.out.mono ?_
    rintro e w1 ⟨rfl, hb⟩
    have J1 := Lib.hid (J0.out.kept hb)
    clear hb
    have JF := Lib.hid (J1.out.row #[.string ⟨#[]⟩, .string ⟨#[]⟩])
    go_wp2_with (refine wpList_store_row rfl _ _ _ rfl w.heap.size #[.string ⟨#[]⟩, .string ⟨#[]⟩] rfl rfl _ _ J1.out.2 (by kernel_rfl) rfl (by kernel_rfl) ?_)
    (try simp only [Exit.inBlock, Exit.then])
    exact bodyPost_ret (results_c3 rfl _ _ w.heap.size _ _ _ _ rfl JF.out.2 HU.out.2 rfl HU.out.1) rfl ⟨rfl, JF.out.1⟩
theorem lawS : Go.Maps.Keyed Tryd.prog 9 := Go.Maps.string_keyed Tryd.underlying9
theorem zeroI (w : World) : (zeroValue 3).run Tryd.prog w = .ok (.int .i64 0) w := by kernel_rfl
theorem info_pair : ∃ i, Tryd.prog.info? 31 = some i ∧ i.zero = some (.agg #[.string ⟨#[]⟩, .string ⟨#[]⟩]) ∧ i.size = 2 ∧ i.bytes = 32 := by
  obtain ⟨i, h1, h2, h3, h4⟩ := info_parts (show (Tryd.prog.info? 31).map (fun i => (i.zero, i.size, i.bytes)) = some (some (.agg #[.string ⟨#[]⟩, .string ⟨#[]⟩]), 2, 32) by kernel_rfl)
  exact ⟨i, h1, h2, h3, h4⟩
theorem cell_new2 (w : World) (u1 u2 : Value) (T : TypeId) : ∀ (j : Nat) (v : Value), [u1, u2][j]? = some v → (w.alloc (.cells #[u1, u2] T)).cell? ((⟨w.heap.size, 0, none⟩ : Addr).add j) = some v := by
  intro j v hv
  match j with
  | 0 => simp at hv; subst hv; simp [Addr.add]
  | 1 => simp at hv; subst hv; rw [addr_add, cell_of _ (hp_new _ _)]; rfl
  | j + 2 => simp at hv
/-- 'out = append(out, u)' onto a row of the call's own, the elements of two cells each. -/
theorem wpList_app2 {P : Program} {ops : Array Oper} {rest : List Oper} {o : Oper} {a : Act} {Q : Exit → Act → World → Prop} {w : World} (hgd : o.guard = none) (s x : Operand) (t e : TypeId)
    (ho : o.op = .call { callee := .builtin .append, args := #[s, x], argTypes := #[t, t] }) (z : Value) (bytes : Nat) (ht : P.underlying t = some (.slice e))
    (hi : ∃ i, P.info? e = some i ∧ i.zero = some z ∧ i.size = 2 ∧ i.bytes = bytes) (hzs : z.cells.size = 2)
    (base : Nat) (v : Value) (n : Nat) (xs : List Value) (hs : a.eval s = v) (hown : w.ownsRow base e 2 v n xs) (u1 u2 : Value) (hx : a.eval x = .slice (some ⟨w.heap.size, 0, none⟩) 1 1)
    (h1 : u1.oneCell' = true) (h2 : u2.oneCell' = true) (hn : n ≤ 1000000000) (hby : bytes ≤ 1000) (hbase : base ≤ w.heap.size)
    (h : ∀ v' w', w'.ownsRow base e 2 v' (n + 1) (xs ++ [u1, u2]) → (w.alloc (.cells #[u1, u2] e)).grownBy w' v.ownBlock → wpList P ops Q rest (a.put o.dst v') w') : wpList P ops Q (o :: rest) a (w.alloc (.cells #[u1, u2] e)) := by
  obtain ⟨i, hi, hz, hsz, hbt⟩ := hi
  refine wpList_append_own _ hgd s x t ho base e i z 2 bytes ht hi hz hsz hbt hzs (by decide) v n xs hs (hown.alloc _) ⟨w.heap.size, 0, none⟩ 1 1 [u1, u2] hx rfl (cell_new2 w u1 u2 e) (by intro u hu; simp at hu; rcases hu with rfl | rfl <;> assumption) (by unfold maxLen; omega) ?_ (by simp; omega) fun v' w' hown' hgrow _ => h v' w' hown' hgrow
  have : (n + 1) * bytes ≤ 1000000001 * 1000 := Nat.mul_le_mul (by omega) hby
  omega
theorem ownsRow_keep {w w' : World} {base : Nat} {e : TypeId} {c n : Nat} {v : Value} {xs : List Value} (h : w.ownsRow base e c v n xs) (hk : ∀ g, base ≤ g → g < w.heap.size → w'.heap[g]? = w.heap[g]?) : w'.ownsRow base e c v n xs := by
  obtain ⟨hl, h2 | ⟨g, cap, cur, hv, hg, hh, r⟩⟩ := h
  · exact ⟨hl, Or.inl h2⟩
  · exact ⟨hl, Or.inr ⟨g, cap, cur, hv, hg, (hk g hg (lt_of hh)).trans hh, r⟩⟩
theorem ownsRow_lt {w : World} {base : Nat} {e : TypeId} {c n : Nat} {v : Value} {xs : List Value} (h : w.ownsRow base e c v n xs) (b : Nat) (hb : b < base) : some b ≠ v.ownBlock := by
  obtain ⟨hl, ⟨hv, _⟩ | ⟨g, cap, cur, hv, hg, hh, r⟩⟩ := h
  · rw [hv]; simp [Value.ownBlock]
  · rw [hv]; simp [Value.ownBlock]; omega
/-- The names met so far, in the map at block b. -/
def Seen (w : World) (b n : Nat) (acc : List PairL) : Prop := ∃ D : DataW Unit, w.ownsMap Tryd.prog 9 (Go.plainElem Tryd.prog 3) b n D ∧ ∀ s : List UInt8, D.atKey (.string s) (.lit (.int .i64 0)) = .lit (.int .i64 (if hasN acc s then 1 else 0))
theorem ownsMap_keep {H : Type} {w w' : World} {k : TypeId} {R : Value → Option (DataW H × List MemPlace)} {b n : Nat} {D : DataW H} (h : w.ownsMap Tryd.prog k R b n D) (hk : w'.heap[b]? = w.heap[b]?) : w'.ownsMap Tryd.prog k R b n D := by
  obtain ⟨es, clock, hb, r⟩ := h
  exact ⟨es, clock, hk.trans hb, r⟩
theorem ownsMap_at {H : Type} {w : World} {k : TypeId} {R : Value → Option (DataW H × List MemPlace)} {b n : Nat} {D : DataW H} (h : w.ownsMap Tryd.prog k R b n D) : b < w.heap.size := by
  obtain ⟨es, clock, hb, r⟩ := h
  exact lt_of hb
theorem ownsMap_is {H : Type} {w : World} {k : TypeId} {R : Value → Option (DataW H × List MemPlace)} {b n : Nat} {D : DataW H} (h : w.ownsMap Tryd.prog k R b n D) : Go.Maps.IsMap D := by
  obtain ⟨es, clock, hb, _, _, rfl⟩ := h
  exact ⟨_, rfl⟩
theorem Seen.start (w : World) : Seen (w.alloc (.map #[] 0)) w.heap.size 0 [] := ⟨.map [], World.ownsMap_made _ _ _ _, fun s => rfl⟩
theorem seen_snoc {D : DataW Unit} {acc : List PairL} {p : PairL} (hi : Go.Maps.IsMap D) (h : ∀ s : List UInt8, D.atKey (.string s) (.lit (.int .i64 0)) = .lit (.int .i64 (if hasN acc s then 1 else 0))) (hp : hasN acc p.1 = false) :
    ∀ s : List UInt8, (D.put (.string p.1) (.lit (.int .i64 1))).atKey (.string s) (.lit (.int .i64 0)) = .lit (.int .i64 (if hasN (acc ++ [p]) s then 1 else 0)) := by
  intro s
  rw [hasN_snoc]
  by_cases hs : p.1 = s
  · subst hs
    rw [Go.Maps.atKey_put_same hi (by simp [WideAt.IsKeyLit])]
    simp
  · rw [Go.Maps.atKey_put_other (by simpa using fun e => hs e.symm), h]
    simp [hs]
/-- What attributes' reading leaves: the row, the place behind, the error. -/
def PairsPost (o : List PairL × Nat × Nat) (w : World) (e : Ending) (w' : World) : Prop :=
  ∃ A n c, e = .returned (.tuple #[.slice A n c, .int .i64 (o.2.1 : Int), .int .i64 (o.2.2 : Int)]) ∧ PRd w' w'.heap.size A n c o.1 ∧ Below w.heap.size w w' ∧ ∀ b i, A = some ⟨b, i, none⟩ → w.heap.size ≤ b
theorem PairsPost.bad {w w' : World} {e : Ending} {x : Nat} (he : e = .returned (.tuple #[.slice none 0 0, .int .i64 0, .int .i64 (x : Int)])) (hb : Below w.heap.size w w') : PairsPost ([], 0, x) w e w' :=
  ⟨none, 0, 0, he, PRd.nilR _ _, hb, fun b i h => by cases h⟩
theorem PairsPost.good {w w' : World} {e : Ending} {acc : List PairL} {t : Nat} {v : Value} {n base : Nat} (hown : w'.ownsRow base 31 2 v n (cellsP acc)) (he : e = .returned (.tuple #[v, .int .i64 (t : Int), .int .i64 0])) (hb : Below w.heap.size w w') (hbase : w.heap.size ≤ base) : PairsPost (acc, t, 0) w e w' := by
  have hl := fun b hb => ownsRow_lt hown b hb
  obtain ⟨A, c, rfl, hr⟩ := PRd.ofOwn hown
  refine ⟨A, n, c, he, hr, hb, fun b i h => ?_⟩
  subst h
  rcases Nat.lt_or_ge b base with h' | h'
  · exact absurd rfl (hl b h')
  · omega
theorem PRd.move {w w' : World} {B B' n cap : Nat} {A : Option Addr} {ps : List PairL} (h : PRd w B A n cap ps) (hB : B ≤ B') (hk : ∀ b i, A = some ⟨b, i, none⟩ → b < B → w'.heap[b]? = w.heap[b]?) : PRd w' B' A n cap ps :=
  ⟨h.len, h.le, h.fit, h.nil, fun h0 => by
    obtain ⟨b, o, e, hb, hc⟩ := h.at_ h0
    have hh := hk b o e hb
    have hcell : ∀ j, w'.cell? ⟨b, j, none⟩ = w.cell? ⟨b, j, none⟩ := fun j => by unfold World.cell?; rw [hh]
    exact ⟨b, o, e, by omega, fun i p hp => ⟨(hcell _).trans (hc i p hp).1, (hcell _).trans (hc i p hp).2⟩⟩⟩
set_option maxRecDepth 100000 in
set_option maxHeartbeats 4000000 in
theorem tagPairs_range (A : Option Addr) (n cap : Nat) (at_ : Int) (w : World) (ha : at_ < 0 ∨ (n : Int) < at_) :
    Calls Tryd.prog 26 #[.slice A n cap, .int .i64 at_] w fun e w' => PairsPost ([], 0, 3) w e w' := by
  by_cases h0 : at_ < 0
  · have hd : decide (at_ < 0) = true := by simpa using h0
    clear ha
    go_enter Tryd.func26, Tryd.ntmps26
    go_wp2_with fail
    go_step3
    go_wp2
    rw [Exit.noGoto_ret]
    go_ret3
    exact PairsPost.bad rfl (Below.refl _ _)
  · have h1 : (n : Int) < at_ := by omega
    clear ha
    go_enter Tryd.func26, Tryd.ntmps26
    go_wp2_with fail
    go_step3
    go_wp2
    rw [Exit.noGoto_ret]
    go_ret3
    exact PairsPost.bad rfl (Below.refl _ _)
theorem stop_eq {l : List UInt8} {i t : Nat} (h : i = t) : stopB l i t = true := by unfold stopB; simp [h]
theorem stop_end {l : List UInt8} {i t : Nat} (h : l[i]? = none) : stopB l i t = true := by unfold stopB; rw [h]; simp
theorem stop_at {l : List UInt8} {i t : Nat} {c : UInt8} (h : l[i]? = some c) (hc : c = 47 ∨ c = 62) : stopB l i t = true := by unfold stopB; rw [h]; rcases hc with rfl | rfl <;> simp
theorem stop_no {l : List UInt8} {i t : Nat} {c : UInt8} (h : l[i]? = some c) (h0 : i ≠ t) (h1 : c ≠ 47) (h2 : c ≠ 62) : stopB l i t = false := by unfold stopB; rw [h]; simp [h0, h1, h2]
/-- While attributes are read: below w all as it was; the map of names at w's end; the row behind it. -/
def PgJ (w wr : World) (v : Value) (acc : List PairL) : Prop :=
  Below w.heap.size w wr ∧ w.heap.size < wr.heap.size ∧ Seen wr w.heap.size acc.length acc ∧ wr.ownsRow (w.heap.size + 1) 31 2 v acc.length (cellsP acc)
theorem PgJ.kept {w wr w' : World} {v : Value} {acc : List PairL} (h : PgJ w wr v acc) (hb : Below wr.heap.size wr w') : PgJ w w' v acc := by
  obtain ⟨h1, h2, ⟨D, h3, h3'⟩, h4⟩ := h
  exact ⟨h1.trans (hb.mono h1.size), by have := hb.size; omega, ⟨D, ownsMap_keep h3 (hb.block _ h2), h3'⟩, ownsRow_keep h4 fun g _ hg => hb.block g hg⟩
theorem PgJ.start (w : World) : PgJ w (w.alloc (.map #[] 0)) (.slice none 0 0) [] :=
  ⟨(Below.refl _ _).alloc (Nat.le_refl _) _, by simp, Seen.start w, rfl, Or.inl ⟨rfl, rfl⟩⟩
/-- A name counted. -/
theorem PgJ.count {w wr w' : World} {v : Value} {acc : List PairL} (h : PgJ w wr v acc) (hb : wr.grownBy w' (some w.heap.size)) : Below w.heap.size w w' ∧ w.heap.size < w'.heap.size ∧ w'.ownsRow (w.heap.size + 1) 31 2 v acc.length (cellsP acc) :=
  ⟨h.1.grown hb h.1.size (fun j hj => by cases hj; exact Nat.le_refl _), by have := hb.size; have := h.2.1; omega, ownsRow_keep h.2.2.2 fun g hg hl => hb.block g hl (by simp; omega)⟩
theorem PgJ.appended {w w3 w4 : World} {v v4 : Value} {acc : List PairL} {p : PairL} {cs : Array Value} {T : TypeId} (h1 : Below w.heap.size w w3) (h2 : w.heap.size < w3.heap.size) (hs : Seen w3 w.heap.size (acc ++ [p]).length (acc ++ [p])) (ho : w3.ownsRow (w.heap.size + 1) 31 2 v acc.length (cellsP acc))
    (hn : w4.ownsRow (w.heap.size + 1) 31 2 v4 (acc ++ [p]).length (cellsP (acc ++ [p]))) (hg : (w3.alloc (.cells cs T)).grownBy w4 v.ownBlock) : PgJ w w4 v4 (acc ++ [p]) := by
  have hsz := hg.size
  simp at hsz
  obtain ⟨D, hm, hD⟩ := hs
  refine ⟨(h1.alloc h1.size (.cells cs T)).grown hg (by simp; omega) fun k hk => ?_, by omega, ⟨D, ownsMap_keep hm ?_, hD⟩, hn⟩
  · have := (ho.lt k hk).1
    omega
  · rw [hg.block w.heap.size (by simp; omega) (ownsRow_lt ho w.heap.size (by omega)), Below.heap_alloc _ _ _ h2]
set_option maxRecDepth 100000 in
set_option maxHeartbeats 8000000 in
theorem tagPairs_in (A : Option Addr) (n cap : Nat) (l : List UInt8) (k : Nat) (w : World) (h : Byt w w.heap.size A n cap l) (hW : W10 w) (hm : n ≤ 40000) (hk : k ≤ n) :
    Calls Tryd.prog 26 #[.slice A n cap, .int .i64 k] w fun e w' => PairsPost (pairsOut l k) w e w' := by
  have hln := h.length
  have HK : Hid (∀ W v acc, PgJ w W v acc → Byt W W.heap.size A n cap l ∧ W10 W) := Lib.hid fun W v acc hJ => ⟨(h.below hJ.1).more hJ.1.size, hW.below hJ.1⟩
  have CB : Hid (∀ t, t ≤ n → ∀ W v acc, PgJ w W v acc → Calls Tryd.prog 27 #[.slice A n cap, .int .i64 (t : Int)] W fun e w' => e = .returned (.int .i64 (blankTo l t)) ∧ W = w') := Lib.hid fun t ht W v acc hb => blanks_c A n cap l t _ W (HK.out W v acc hb).1 (by omega) ht
  have CP : Hid (∀ t : Nat, t ≤ n → ∀ W v acc, PgJ w W v acc → Calls Tryd.prog 52 #[.slice A n cap, .int .i64 (t : Int)] W fun e w' => e = .returned (tpairV (pairOut l t)) ∧ Below W.heap.size W w') := Lib.hid fun t ht W v acc hb => tagPair_c A n cap l t W (HK.out W v acc hb).1 (HK.out W v acc hb).2 hm ht
  have HLn := Lib.hid hln
  have HKn := Lib.hid (And.intro hm hk)
  have HBy : Hid (Byt w w.heap.size A n cap l) := Lib.hid h
  have hk' : ¬ (n : Int) < (k : Int) := by omega
  have hk0 : ¬ (k : Int) < 0 := by omega
  have hmm := @run_makeMap Tryd.prog
  have hkn : ¬ n < k := by omega
  clear h hW hln hk hm HK
  go_enter Tryd.func26, Tryd.ntmps26
  go_wp2_with fail
  go_step3
  go_wp2_with fail
  go_step3
  go_wp2_with fail
  go_loopg [1, 7] (n) (fun g i v wr => ∃ (t : Nat) (acc : List PairL) (f : Nat), i = .int .i64 (t : Int) ∧ t ≤ n ∧ Hid (g = f) ∧ Hid (n ≤ f + t) ∧ Hid (acc.length ≤ t) ∧ Hid (pairsOut l k = pairsR l (f + 1) acc t) ∧ Hid (PgJ w wr v acc))
  case atStart => exact ⟨k, [], n, rfl, HKn.out.2, Lib.hid rfl, Lib.hid (by omega), Lib.hid (Nat.zero_le _), Lib.hid (by unfold pairsOut; rw [HLn.out]), Lib.hid (PgJ.start w)⟩
  case round =>
    obtain ⟨t, acc, f, rfl, ht, hgf, hg, hal, HE, HJ⟩ := hrel
    have hm := HKn.out.1
    have ht0 : (0 : Int) ≤ (t : Int) := by omega
    have htb : (t : Int) ≤ 40000 := by omega
    have c1 := CB.out t ht _ _ _ HJ.out
    have hbl := blankTo_le l t (by rw [HLn.out]; exact ht)
    rw [HLn.out] at hbl
    have hst := fun (h : stopB l (blankTo l t) t = true) => HE.out.trans (pairs_stop (f := _) (acc := acc) h)
    have hbd := fun (h : stopB l (blankTo l t) t = false) (e : Nat) (he : (pairOut l (blankTo l t)).2.2 = e) (h0 : e ≠ 0) => HE.out.trans (pairs_bad (f := _) (acc := acc) h he h0)
    have htw := fun (h : stopB l (blankTo l t) t = false) he h0 => HE.out.trans (pairs_twice (f := _) (acc := acc) h he h0)
    have hmo := fun (h : stopB l (blankTo l t) t = false) he h0 => HE.out.trans (pairs_more (f := _) (acc := acc) h he h0)
    generalize blankTo l t = b at *
    have hb0 : (0 : Int) ≤ (b : Int) := by omega
    have hb1 : (b : Int) ≤ 40000 := by omega
    have C1 := Lib.hid c1
    clear c1
    by_cases hbt : b = t
    · have hE := Lib.hid (hst (stop_eq hbt))
      have hbe : ((b : Int) == (t : Int)) = true := by simp; omega
      clear hst hbd htw hmo hmm hbt
      go_wp2_with fail
      refine (C1.out).mono ?_
      rintro e wq ⟨rfl, rfl⟩
      go_wp2
      go_ret3
      rw [hE.out]
      exact PairsPost.good HJ.out.2.2.2 rfl HJ.out.1 (Nat.le_succ _)
    · have hbe : ((b : Int) == (t : Int)) = false := by simp; omega
      by_cases hbn : b < n
      · obtain ⟨bb, o, c, rfl, hbB, hc, hcell⟩ := (HBy.out.below HJ.out.1).cell hbn
        have hbne : ((b : Int) == (n : Int)) = false := by simp; omega
        have c0 : (0 : Int) ≤ (c.toNat : Int) := by omega
        have c9 : (c.toNat : Int) ≤ 255 := by have := c.toNat_lt; omega
        by_cases h47 : c = 47
        · have hE := Lib.hid (hst (stop_at hc (Or.inl h47)))
          subst h47
          have hcell' : wr.cell? ⟨bb, o + b, none⟩ = some (.int .u8 47) := hcell
          clear hst hbd htw hmo hmm hbt hc hcell
          go_wp2_with fail
          refine (C1.out).mono ?_
          rintro e wq ⟨rfl, rfl⟩
          go_wp2
          go_ret3
          rw [hE.out]
          exact PairsPost.good HJ.out.2.2.2 rfl HJ.out.1 (Nat.le_succ _)
        · by_cases h62 : c = 62
          · have hE := Lib.hid (hst (stop_at hc (Or.inr h62)))
            subst h62
            have hcell' : wr.cell? ⟨bb, o + b, none⟩ = some (.int .u8 62) := hcell
            clear hst hbd htw hmo hmm hbt hc hcell
            go_wp2_with fail
            refine (C1.out).mono ?_
            rintro e wq ⟨rfl, rfl⟩
            go_wp2
            go_ret3
            rw [hE.out]
            exact PairsPost.good HJ.out.2.2.2 rfl HJ.out.1 (Nat.le_succ _)
          · have hsn := stop_no (t := t) hc hbt h47 h62
            have n47 : ((c.toNat : Int) == 47) = false := by
              have : c.toNat ≠ 47 := fun e => h47 (UInt8.toNat_inj.1 e)
              simp; omega
            have n62 : ((c.toNat : Int) == 62) = false := by
              have : c.toNat ≠ 62 := fun e => h62 (UInt8.toNat_inj.1 e)
              simp; omega
            have c2 := CP.out b (by omega) _ _ _ HJ.out
            have hpo := pairOut_ok l b (by rw [HLn.out]; omega)
            rw [HLn.out] at hpo
            clear hst hc h47 h62 hbt
            generalize pairOut l b = p at *
            obtain ⟨⟨s, pv⟩, nx, e⟩ := p
            unfold tpairV at c2
            simp only at c2 hpo hbd htw hmo
            have C2 := Lib.hid c2
            clear c2
            by_cases he : e = 0
            · subst he
              obtain ⟨hp1, hp2, hp3, hp4⟩ := hpo rfl
              have htx : t < nx := by omega
              have hkey : keyOf Tryd.prog 9 (.string ⟨s.toArray⟩) = some (.string s) := by
                have := Go.WideMaps.keyOf_string_mk (P := Tryd.prog) Tryd.underlying9 (s := ⟨s.toArray⟩) (by simp [ByteArray.size]; unfold maxLen; omega)
                simpa using this
              have HKEY := Lib.hid hkey
              cases hh : hasN acc s with
              | true =>
                have hE := Lib.hid (htw hsn rfl hh)
                clear hbd htw hmo hmm hsn
                go_wp2_with fail
                refine (C1.out).mono ?_
                rintro e wq ⟨rfl, rfl⟩
                go_wp2_with fail
                refine C2.out.mono ?_
                rintro e1 w1 ⟨rfl, hb⟩
                have J1 := Lib.hid (HJ.out.kept hb)
                clear hb
                have J2 := Lib.hid (J1.out.kept ((Below.refl _ w1).alloc (Nat.le_refl _) (.cells #[.string ⟨s.toArray⟩, .string ⟨pv.toArray⟩] 31)))
                have hq := hp_new w1 (.cells #[.string ⟨s.toArray⟩, .string ⟨pv.toArray⟩] 31)
                have z0 : (w1.alloc (.cells #[.string ⟨s.toArray⟩, .string ⟨pv.toArray⟩] 31)).cell? ⟨w1.heap.size, 0, none⟩ = some (.string ⟨s.toArray⟩) := cell_of 0 hq
                obtain ⟨D, hown, hD⟩ := J2.out.2.2.1
                have HD : Hid (∀ c : Int, D.atKey (.string s) (.lit (.int .i64 0)) = .lit (.int .i64 c) → c = 1) := Lib.hid fun c hc => by
                  rw [hD s, hh] at hc
                  simp at hc
                  exact hc.symm
                have HI := Lib.hid (ownsMap_is hown)
                clear hD hh
                go_wp2_with (first
                  | (at_lookup; refine wpList_lookup_own_int _ rfl _ _ 92 rfl 9 3 .i64 lawS Tryd.underlying92 Tryd.underlying3 (zeroI _) w.heap.size acc.length _ rfl hown _ _ rfl HKEY.out ?_; intro c hat hwc; obtain rfl := HD.out c hat)
                  | (at_mapUpdate; refine wpList_mapUpdate_own _ rfl _ _ _ 92 rfl 9 3 lawS Tryd.underlying92 _ w.heap.size acc.length _ rfl hown (by have := hal.out; unfold maxLen; omega) _ _ _ rfl rfl HKEY.out _ [] (plainElem_int Tryd.underlying3 (by decide)) ?_))
                intro w3 hown3 hgrow3
                have J3 := Lib.hid (J2.out.count hgrow3)
                have z3 : w3.cell? ⟨w1.heap.size, 0, none⟩ = some (.string ⟨s.toArray⟩) := by
                  have := J1.out.2.1
                  rw [cell_of 0 ((hgrow3.block w1.heap.size (by simp) (by simp; omega)).trans hq)]; rfl
                have HD3 : Hid (∀ c : Int, (D.put (.string s) (.lit (.int .i64 2))).atKey (.string s) (.lit (.int .i64 0)) = .lit (.int .i64 c) → c = 2) := Lib.hid fun c hc => by
                  rw [Go.Maps.atKey_put_same HI.out (by simp [WideAt.IsKeyLit])] at hc
                  simp at hc
                  exact hc.symm
                clear hown hgrow3 z0 hq
                go_wp2_with (at_lookup; refine wpList_lookup_own_int _ rfl _ _ 92 rfl 9 3 .i64 lawS Tryd.underlying92 Tryd.underlying3 (zeroI _) w.heap.size (acc.length + 1) _ rfl hown3 _ _ rfl HKEY.out ?_; intro c hat hwc; obtain rfl := HD3.out c hat)
                go_ret3
                rw [hE.out]
                exact PairsPost.bad rfl J3.out.1
              | false =>
                have hE := Lib.hid (hmo hsn rfl hh)
                clear hbd htw hmo hmm hsn
                go_wp2_with fail
                refine (C1.out).mono ?_
                rintro e wq ⟨rfl, rfl⟩
                go_wp2_with fail
                refine C2.out.mono ?_
                rintro e1 w1 ⟨rfl, hb⟩
                have J1 := Lib.hid (HJ.out.kept hb)
                clear hb
                have J2 := Lib.hid (J1.out.kept ((Below.refl _ w1).alloc (Nat.le_refl _) (.cells #[.string ⟨s.toArray⟩, .string ⟨pv.toArray⟩] 31)))
                have hq := hp_new w1 (.cells #[.string ⟨s.toArray⟩, .string ⟨pv.toArray⟩] 31)
                have z0 : (w1.alloc (.cells #[.string ⟨s.toArray⟩, .string ⟨pv.toArray⟩] 31)).cell? ⟨w1.heap.size, 0, none⟩ = some (.string ⟨s.toArray⟩) := cell_of 0 hq
                obtain ⟨D, hown, hD⟩ := J2.out.2.2.1
                have HD : Hid (∀ c : Int, D.atKey (.string s) (.lit (.int .i64 0)) = .lit (.int .i64 c) → c = 0) := Lib.hid fun c hc => by
                  rw [hD s, hh] at hc
                  simp at hc
                  exact hc.symm
                have HI := Lib.hid (ownsMap_is hown)
                have HS := Lib.hid (seen_snoc (p := (s, pv)) HI.out hD hh)
                clear hD hh
                go_wp2_with (first
                  | (at_lookup; refine wpList_lookup_own_int _ rfl _ _ 92 rfl 9 3 .i64 lawS Tryd.underlying92 Tryd.underlying3 (zeroI _) w.heap.size acc.length _ rfl hown _ _ rfl HKEY.out ?_; intro c hat hwc; obtain rfl := HD.out c hat)
                  | (at_mapUpdate; refine wpList_mapUpdate_own _ rfl _ _ _ 92 rfl 9 3 lawS Tryd.underlying92 _ w.heap.size acc.length _ rfl hown (by have := hal.out; unfold maxLen; omega) _ _ _ rfl rfl HKEY.out _ [] (plainElem_int Tryd.underlying3 (by decide)) ?_))
                intro w3 hown3 hgrow3
                have J3 := Lib.hid (J2.out.count hgrow3)
                have hq3 : w3.heap[w1.heap.size]? = some (.cells #[.string ⟨s.toArray⟩, .string ⟨pv.toArray⟩] 31) := by
                  have := J1.out.2.1
                  exact (hgrow3.block w1.heap.size (by simp) (by simp; omega)).trans hq
                have z3 : w3.cell? ⟨w1.heap.size, 0, none⟩ = some (.string ⟨s.toArray⟩) := cell_of 0 hq3
                have z4 : w3.cell? ⟨w1.heap.size, 1, none⟩ = some (.string ⟨pv.toArray⟩) := cell_of 1 hq3
                have HD3 : Hid (∀ c : Int, (D.put (.string s) (.lit (.int .i64 1))).atKey (.string s) (.lit (.int .i64 0)) = .lit (.int .i64 c) → c = 1) := Lib.hid fun c hc => by
                  rw [Go.Maps.atKey_put_same HI.out (by simp [WideAt.IsKeyLit])] at hc
                  simp at hc
                  exact hc.symm
                have HSe : Hid (Seen w3 w.heap.size (acc ++ [(s, pv)]).length (acc ++ [(s, pv)])) := Lib.hid ⟨_, by rw [List.length_append]; exact hown3, HS.out⟩
                have hacc : acc.length ≤ 1000000000 := by have := hal.out; omega
                have hbase : w.heap.size + 1 ≤ w3.heap.size := J3.out.2.1
                clear hgrow3 z0 hq hown
                go_wp2_with (first
                  | (at_lookup; refine wpList_lookup_own_int _ rfl _ _ 92 rfl 9 3 .i64 lawS Tryd.underlying92 Tryd.underlying3 (zeroI _) w.heap.size (acc.length + 1) _ rfl hown3 _ _ rfl HKEY.out ?_; intro c hat hwc; obtain rfl := HD3.out c hat)
                  | (at_builtin; refine wpList_app2 rfl (.tmp 68) (.tmp 70) 24 31 rfl (.agg #[.string ⟨#[]⟩, .string ⟨#[]⟩]) 32 Tryd.underlying24 info_pair rfl (w.heap.size + 1) _ acc.length (cellsP acc) rfl J3.out.2.2 (.string ⟨s.toArray⟩) (.string ⟨pv.toArray⟩) rfl rfl rfl hacc (by decide) hbase ?_))
                intro v4 w4 hown4 hgrow4
                have J4 : Hid (PgJ w w4 v4 (acc ++ [(s, pv)])) := Lib.hid (PgJ.appended J3.out.1 J3.out.2.1 HSe.out J3.out.2.2 (by rw [cellsP_snoc, List.length_append]; exact hown4) hgrow4)
                clear hgrow4 hown4 HSe z3 z4 hq3
                go_wp2
                go_roundg (f - 1)
                case measure => have := hg.out; have := hgf.out; omega
                case rel => exact ⟨nx, acc ++ [(s, pv)], f - 1, rfl, by omega, Lib.hid rfl, Lib.hid (by have := hg.out; omega), Lib.hid (by have := hal.out; simp; omega), Lib.hid (by rw [hE.out, show f - 1 + 1 = f by have := hg.out; omega]), J4⟩
            · have hE := Lib.hid (hbd hsn e rfl he)
              have hei : ((e : Int) == 0) = false := by simp; omega
              clear hbd htw hmo hmm hsn hpo
              go_wp2_with fail
              refine (C1.out).mono ?_
              rintro e wq ⟨rfl, rfl⟩
              go_wp2_with fail
              refine C2.out.mono ?_
              rintro e1 w1 ⟨rfl, hb⟩
              have J1 := Lib.hid (HJ.out.kept hb)
              clear hb
              have J2 := Lib.hid (J1.out.kept ((Below.refl _ w1).alloc (Nat.le_refl _) (.cells #[.string ⟨s.toArray⟩, .string ⟨pv.toArray⟩] 31)))
              go_wp2
              go_ret3
              rw [hE.out]
              exact PairsPost.bad rfl J2.out.1
      · obtain rfl : b = n := by omega
        have hE := Lib.hid (hst (stop_end (by rw [List.getElem?_eq_none]; rw [HLn.out]; exact Nat.le_refl _)))
        have hbne : ((b : Int) == (b : Int)) = true := by simp
        clear hst hbd htw hmo hmm hbt
        go_wp2_with fail
        refine (C1.out).mono ?_
        rintro e wq ⟨rfl, rfl⟩
        go_wp2
        go_ret3
        rw [hE.out]
        exact PairsPost.good HJ.out.2.2.2 rfl HJ.out.1 (Nat.le_succ _)
def startV (o : List UInt8 × Nat × Nat) : Value := outV o
/-- What 'begin' reads: a mark and a name behind it. -/
def beginOut (p : List UInt8) (l : List UInt8) (k : Nat) : List UInt8 × Nat × Nat := if p.isPrefixOf (l.drop k) = true then nameOut l (k + p.length) else ([], 0, 7)
set_option maxRecDepth 100000 in
set_option maxHeartbeats 4000000 in
theorem tagBegin_range (A : Option Addr) (n cap : Nat) (at_ : Int) (p : List UInt8) (w : World) (ha : at_ < 0 ∨ (n : Int) < at_) :
    Calls Tryd.prog 25 #[.slice A n cap, .int .i64 at_, .string ⟨p.toArray⟩] w fun e w' => e = .returned (outV ([], 0, 3)) ∧ w = w' := by
  by_cases h0 : at_ < 0
  · have hd : decide (at_ < 0) = true := by simpa using h0
    clear ha
    go_enter Tryd.func25, Tryd.ntmps25
    go_wp2
    go_ret3
    exact ⟨rfl, rfl⟩
  · have h1 : (n : Int) < at_ := by omega
    clear ha
    go_enter Tryd.func25, Tryd.ntmps25
    go_wp2
    go_ret3
    exact ⟨rfl, rfl⟩
set_option maxRecDepth 100000 in
set_option maxHeartbeats 4000000 in
theorem tagBegin_in (A : Option Addr) (n cap : Nat) (l : List UInt8) (k : Nat) (p : List UInt8) (w : World) (h : Byt w w.heap.size A n cap l) (hW : W10 w) (hm : n ≤ 40000) (hk : k ≤ n) (hp0 : 0 < p.length) (hpl : p.length ≤ 100) :
    Calls Tryd.prog 25 #[.slice A n cap, .int .i64 k, .string ⟨p.toArray⟩] w fun e w' => e = .returned (outV (beginOut p l k)) ∧ Below w.heap.size w w' := by
  have hln := h.length
  have hk' : ¬ (n : Int) < (k : Int) := by omega
  have hk0 : (0 : Int) ≤ (k : Int) := by omega
  have hk1 : (k : Int) ≤ 40000 := by omega
  have hp1 : (p.length : Int) ≤ 100 := by omega
  have c1 := stands_c A n cap l k p _ w h (by omega) (by omega) hk
  unfold beginOut
  cases hp : p.isPrefixOf (l.drop k) with
  | true =>
    rw [if_pos rfl]
    rw [hp] at c1
    have hkp : k + p.length ≤ n := by
      rcases pre_len hp with e | e
      · rw [e] at hp0; cases hp0
      · omega
    have c2 := name_c A n cap l (k + p.length) w h hW.forms hW.tabs.n (by omega) hkp
    rw [show ((k + p.length : Nat) : Int) = (k : Int) + (p.length : Int) by omega] at c2
    generalize nameOut l (k + p.length) = m at *
    obtain ⟨s, nx, e⟩ := m
    have C1 := Lib.hid c1
    have C2 := Lib.hid c2
    clear c1 c2 h hW hln hp hkp
    unfold outV at *
    go_enter Tryd.func25, Tryd.ntmps25
    go_wp2_with fail
    refine (C1.out).mono ?_
    rintro e wq ⟨rfl, rfl⟩
    go_wp2_with fail
    refine C2.out.mono ?_
    rintro e w1 ⟨rfl, hb⟩
    have B1 := Lib.hid hb
    clear hb
    go_wp2
    go_ret3
    exact ⟨rfl, B1.out⟩
  | false =>
    rw [if_neg (by simp)]
    rw [hp] at c1
    have C1 := Lib.hid c1
    clear c1 h hW hln hp
    unfold outV
    go_enter Tryd.func25, Tryd.ntmps25
    go_wp2_with fail
    refine (C1.out).mono ?_
    rintro e wq ⟨rfl, rfl⟩
    go_wp2
    go_ret3
    exact ⟨rfl, Below.refl _ _⟩
/-- narthex/tag.Pairs at any place. -/
theorem tagPairs_c (A : Option Addr) (n cap : Nat) (l : List UInt8) (at_ : Int) (w : World) (h : Byt w w.heap.size A n cap l) (hW : W10 w) (hm : n ≤ 40000) :
    Calls Tryd.prog 26 #[.slice A n cap, .int .i64 at_] w fun e w' => PairsPost (tagAt [] pairsOut l at_) w e w' := by
  unfold tagAt
  rw [h.length]
  by_cases ha : at_ < 0 ∨ (n : Int) < at_
  · rw [if_pos ha]; exact tagPairs_range A n cap at_ w ha
  · rw [if_neg ha]
    obtain ⟨k, rfl⟩ : ∃ k : Nat, at_ = (k : Int) := ⟨at_.toNat, by omega⟩
    exact tagPairs_in A n cap l k w h hW hm (by omega)
theorem beginOut_e (p l : List UInt8) (k : Nat) : (beginOut p l k).2.2 = 0 → (beginOut p l k) = nameOut l (k + p.length) ∧ p.isPrefixOf (l.drop k) = true := by
  unfold beginOut
  split
  · rename_i h; exact fun _ => ⟨rfl, h⟩
  · intro h; cases h
set_option maxRecDepth 100000 in
set_option maxHeartbeats 4000000 in
theorem tagClose_in (A : Option Addr) (n cap : Nat) (l : List UInt8) (k : Nat) (w : World) (h : Byt w w.heap.size A n cap l) (hW : W10 w) (hm : n ≤ 40000) (hk : k ≤ n) :
    Calls Tryd.prog 16 #[.slice A n cap, .int .i64 k] w fun e w' => e = .returned (outV (closeOut l k)) ∧ Below w.heap.size w w' := by
  have hln := h.length
  have c1 := tagBegin_in A n cap l k [60, 47] w h hW hm hk (by simp) (by simp)
  have CB : Hid (∀ t, t ≤ n → ∀ W, Below w.heap.size w W → Calls Tryd.prog 27 #[.slice A n cap, .int .i64 (t : Int)] W fun e w' => e = .returned (.int .i64 (blankTo l t)) ∧ W = w') := Lib.hid fun t ht W hb => blanks_c A n cap l t _ W (h.below hb) (by omega) ht
  have CS : Hid (∀ t, t ≤ n → ∀ W, Below w.heap.size w W → Calls Tryd.prog 28 #[.slice A n cap, .int .i64 (t : Int), .string ⟨#[62]⟩] W fun e w' => e = .returned (.bool ([62].isPrefixOf (l.drop t))) ∧ W = w') := Lib.hid fun t ht W hb => stands_c A n cap l t [62] _ W (h.below hb) (by omega) (by simp) ht
  have hcl : closeOut l k = if (beginOut [60, 47] l k).2.2 ≠ 0 then ([], 0, (beginOut [60, 47] l k).2.2) else if [62].isPrefixOf (l.drop (blankTo l (beginOut [60, 47] l k).2.1)) = true then ((beginOut [60, 47] l k).1, blankTo l (beginOut [60, 47] l k).2.1 + 1, 0) else ([], 0, 7) := by
    unfold closeOut beginOut
    split <;> simp
  have hno : (beginOut [60, 47] l k).2.2 = 0 → (beginOut [60, 47] l k).2.1 ≤ n := fun h0 => by
    obtain ⟨h1, h2⟩ := beginOut_e [60, 47] l k h0
    rw [h1] at h0 ⊢
    have := pre_len h2
    simp only [List.length_cons, List.length_nil] at h0 ⊢ this
    rw [← hln]
    refine (nameOut_ok l (k + 2) ?_ h0).2.1
    rcases this with e | e
    · cases e
    · omega
  rw [hcl]
  clear hcl
  generalize beginOut [60, 47] l k = m at *
  obtain ⟨s, nx, e⟩ := m
  simp only at hno ⊢
  unfold outV at c1
  simp only at c1
  have C1 := Lib.hid c1
  clear c1
  by_cases he : e = 0
  · subst he
    have hnx := hno rfl
    rw [if_neg (by simp)]
    have c2 := CB.out nx hnx
    have hb := blankTo_le l nx (by omega)
    generalize blankTo l nx = b at *
    have c3 := CS.out b (by omega)
    have hb0 : (0 : Int) ≤ (b : Int) := by omega
    have hb1 : (b : Int) ≤ 40000 := by omega
    generalize [62].isPrefixOf (l.drop b) = r at *
    have C2 := Lib.hid c2
    have C3 := Lib.hid c3
    clear c2 c3 CB CS h hW hln hno hnx hb hm hk
    unfold outV
    cases r
    all_goals
      simp only [if_true, Bool.false_eq_true, if_false]
      go_enter Tryd.func16, Tryd.ntmps16
      go_wp2_with fail
      refine (C1.out).mono ?_
      rintro e w1 ⟨rfl, hb⟩
      have B1 := Lib.hid hb
      clear hb
      go_wp2_with fail
      refine (C2.out _ B1.out).mono ?_
      rintro e wq ⟨rfl, rfl⟩
      go_wp2_with fail
      refine (C3.out _ B1.out).mono ?_
      rintro e wq ⟨rfl, rfl⟩
      go_wp2
      go_ret3
      exact ⟨rfl, B1.out⟩
  · rw [if_pos he]
    have hei : ((e : Int) == 0) = false := by simp; omega
    clear CB CS h hW hln hno hm hk
    unfold outV
    go_enter Tryd.func16, Tryd.ntmps16
    go_wp2_with fail
    refine (C1.out).mono ?_
    rintro e w1 ⟨rfl, hb⟩
    have B1 := Lib.hid hb
    clear hb
    go_wp2
    go_ret3
    exact ⟨rfl, B1.out⟩
set_option maxRecDepth 100000 in
set_option maxHeartbeats 4000000 in
theorem tagClose_range (A : Option Addr) (n cap : Nat) (at_ : Int) (w : World) (ha : at_ < 0 ∨ (n : Int) < at_) :
    Calls Tryd.prog 16 #[.slice A n cap, .int .i64 at_] w fun e w' => e = .returned (outV ([], 0, 3)) ∧ Below w.heap.size w w' := by
  have C1 := Lib.hid (tagBegin_range A n cap at_ [60, 47] w ha)
  clear ha
  unfold outV at *
  go_enter Tryd.func16, Tryd.ntmps16
  go_wp2_with fail
  refine (C1.out).mono ?_
  rintro e wq ⟨rfl, rfl⟩
  go_wp2
  go_ret3
  exact ⟨rfl, Below.refl _ _⟩
/-- narthex/tag.Close at any place. -/
theorem tagClose_c (A : Option Addr) (n cap : Nat) (l : List UInt8) (at_ : Int) (w : World) (h : Byt w w.heap.size A n cap l) (hW : W10 w) (hm : n ≤ 40000) :
    Calls Tryd.prog 16 #[.slice A n cap, .int .i64 at_] w fun e w' => e = .returned (outV (tagAt [] closeOut l at_)) ∧ Below w.heap.size w w' := by
  unfold tagAt
  rw [h.length]
  by_cases ha : at_ < 0 ∨ (n : Int) < at_
  · rw [if_pos ha]; exact tagClose_range A n cap at_ w ha
  · rw [if_neg ha]
    obtain ⟨k, rfl⟩ : ∃ k : Nat, at_ = (k : Int) := ⟨at_.toNat, by omega⟩
    exact tagClose_in A n cap l k w h hW hm (by omega)
/-- What an element's begin leaves: its name, its attributes, whether it is empty; the place behind, the error. -/
def OpenPost (o : TagL × Nat × Nat) (w : World) (e : Ending) (w' : World) : Prop :=
  ∃ A n c, e = .returned (.tuple #[.agg #[.string ⟨o.1.name.toArray⟩, .slice A n c, .bool o.1.empty], .int .i64 (o.2.1 : Int), .int .i64 (o.2.2 : Int)]) ∧ PRd w' w'.heap.size A n c o.1.pairs ∧ Below w.heap.size w w'
theorem CJ.other {T : TypeId} {w W : World} {rs : Array Value} (h : CJ T w W rs) (b i : Nat) (hb : w.heap.size < b) (v : Value) : CJ T w (W.setCell ⟨b, i, none⟩ v) rs :=
  ⟨h.1.setCell (p := ⟨b, i, none⟩) (Nat.le_of_lt hb) v, by rw [hp_other (by omega)]; exact h.2⟩
theorem setRow_at (w : World) (g k : Nat) (cs : Array Value) (h : k ≠ g) : (w.setRow g cs).heap[k]? = w.heap[k]? := setRow_other _ _ _ _ h
theorem open_eq (l : List UInt8) (k : Nat) : openOut l k = if (beginOut [60] l k).2.2 ≠ 0 then (noTag, 0, (beginOut [60] l k).2.2)
    else if (pairsOut l (beginOut [60] l k).2.1).2.2 ≠ 0 then (noTag, 0, (pairsOut l (beginOut [60] l k).2.1).2.2)
    else if [47, 62].isPrefixOf (l.drop (blankTo l (pairsOut l (beginOut [60] l k).2.1).2.1)) = true then
      (⟨(beginOut [60] l k).1, (pairsOut l (beginOut [60] l k).2.1).1, true⟩, blankTo l (pairsOut l (beginOut [60] l k).2.1).2.1 + 2, 0)
    else if [62].isPrefixOf (l.drop (blankTo l (pairsOut l (beginOut [60] l k).2.1).2.1)) = true then
      (⟨(beginOut [60] l k).1, (pairsOut l (beginOut [60] l k).2.1).1, false⟩, blankTo l (pairsOut l (beginOut [60] l k).2.1).2.1 + 1, 0)
    else (noTag, 0, 7) := by
  have hb : beginOut [60] l k = if l[k]? = some 60 then nameOut l (k + 1) else ([], 0, 7) := by
    unfold beginOut
    rw [pre_one]
    by_cases h : l[k]? = some 60 <;> simp [h]
  rw [hb]
  unfold openOut
  by_cases h : l[k]? = some 60
  · simp only [if_pos h]
  · simp only [if_neg h]
    simp
set_option maxRecDepth 100000 in
set_option maxHeartbeats 8000000 in
theorem tagOpen_in (A : Option Addr) (n cap : Nat) (l : List UInt8) (k : Nat) (w : World) (h : Byt w w.heap.size A n cap l) (hW : W10 w) (hm : n ≤ 40000) (hk : k ≤ n) :
    Calls Tryd.prog 9 #[.slice A n cap, .int .i64 k] w fun e w' => OpenPost (openOut l k) w e w' := by
  have hln := h.length
  have hJ := CJ.start 26 w #[.string ⟨#[]⟩, .slice none 0 0, .bool false]
  have hi : (Tryd.prog.info? 26).map (·.size) = some 3 := by kernel_rfl
  obtain ⟨d, hu⟩ := isStruct_of (P := Tryd.prog) (t := 26) (by kernel_rfl)
  have HU := Lib.hid (And.intro hi hu)
  have HK : Hid (∀ W rs, CJ 26 w W rs → Byt W W.heap.size A n cap l ∧ W10 W) := Lib.hid fun W rs hJ => ⟨(h.below hJ.1).more hJ.1.size, hW.below hJ.1⟩
  have c1 := tagBegin_in A n cap l k [60] _ (HK.out _ _ hJ).1 (HK.out _ _ hJ).2 hm hk (by simp) (by simp)
  have CP : Hid (∀ t : Nat, t ≤ n → ∀ W rs, CJ 26 w W rs → Calls Tryd.prog 26 #[.slice A n cap, .int .i64 (t : Int)] W fun e w' => PairsPost (pairsOut l t) W e w') := Lib.hid fun t ht W rs hb => tagPairs_in A n cap l t W (HK.out W rs hb).1 (HK.out W rs hb).2 hm ht
  have CB : Hid (∀ t, t ≤ n → ∀ W rs, CJ 26 w W rs → Calls Tryd.prog 27 #[.slice A n cap, .int .i64 (t : Int)] W fun e w' => e = .returned (.int .i64 (blankTo l t)) ∧ W = w') := Lib.hid fun t ht W rs hb => blanks_c A n cap l t _ W (HK.out W rs hb).1 (by omega) ht
  have CS : Hid (∀ t, t ≤ n → ∀ p : List UInt8, p.length ≤ 100 → ∀ W rs, CJ 26 w W rs → Calls Tryd.prog 28 #[.slice A n cap, .int .i64 (t : Int), .string ⟨p.toArray⟩] W fun e w' => e = .returned (.bool (p.isPrefixOf (l.drop t))) ∧ W = w') := Lib.hid fun t ht p hp W rs hb => stands_c A n cap l t p _ W (HK.out W rs hb).1 (by omega) (by omega) ht
  have hno : (beginOut [60] l k).2.2 = 0 → (beginOut [60] l k).2.1 ≤ n := fun h0 => by
    obtain ⟨h1, h2⟩ := beginOut_e [60] l k h0
    rw [h1] at h0 ⊢
    have := pre_len h2
    simp only [List.length_cons, List.length_nil] at h0 ⊢ this
    rw [← hln]
    refine (nameOut_ok l (k + 1) ?_ h0).2.1
    rcases this with e | e
    · cases e
    · omega
  have hpo := fun t (ht : t ≤ n) => pairsOut_le l t (by omega)
  rw [hln] at hpo
  rw [open_eq]
  have J0 := Lib.hid hJ
  clear hi hu hJ h hW
  generalize beginOut [60] l k = m at *
  obtain ⟨s, nx, e⟩ := m
  simp only at hno ⊢
  unfold outV at c1
  simp only at c1
  have C1 := Lib.hid c1
  clear c1
  by_cases he : e = 0
  · subst he
    have hnx := hno rfl
    rw [if_neg (by simp)]
    have C2 := Lib.hid (CP.out nx hnx)
    have hpn := hpo nx hnx
    generalize pairsOut l nx = ps at *
    obtain ⟨ps, px, pe⟩ := ps
    simp only at hpn ⊢
    by_cases hpe : pe = 0
    · subst hpe
      rw [if_neg (by simp)]
      have c3 := CB.out px hpn
      have hb := blankTo_le l px (by omega)
      generalize blankTo l px = b at *
      have c4 := CS.out b (by omega) [47, 62] (by simp)
      have c5 := CS.out b (by omega) [62] (by simp)
      have hb0 : (0 : Int) ≤ (b : Int) := by omega
      have hb1 : (b : Int) ≤ 40000 := by omega
      generalize [47, 62].isPrefixOf (l.drop b) = r1 at *
      generalize [62].isPrefixOf (l.drop b) = r2 at *
      have C3 := Lib.hid c3
      have C4 := Lib.hid c4
      have C5 := Lib.hid c5
      clear c3 c4 c5 CB CS CP HK hln hno hpo hnx hpn hb hm hk
      cases r1 with
      | true =>
        simp only [if_true]
        go_enter Tryd.func9, Tryd.ntmps9
        go_wp2_with fail
        refine C1.out.mono ?_
        rintro e w1 ⟨rfl, hb⟩
        have J1 := Lib.hid (J0.out.kept hb)
        clear hb
        go_wp2_with fail
        refine (C2.out _ _ J1.out).mono ?_
        rintro e w2 ⟨PA, pn, pc, rfl, hpr, hb, hlo⟩
        have J2 := J1.out.kept hb
        have HP := Lib.hid (And.intro hpr (fun b i h => Nat.lt_of_lt_of_le (lt_of J1.out.2) (hlo b i h)))
        have hq := hp_new w2 (.cells #[.string ⟨s.toArray⟩, .slice PA pn pc, .bool false] 26)
        have hwl := lt_of J2.2
        have hwl1 := lt_of J1.out.2
        have J3 := Lib.hid (J2.kept ((Below.refl _ w2).alloc (Nat.le_refl _) (.cells #[.string ⟨s.toArray⟩, .slice PA pn pc, .bool false] 26)))
        have J4 := Lib.hid (J2.kept ((Below.refl _ w2).alloc (Nat.le_refl _) (.cells #[.string ⟨s.toArray⟩, .slice PA pn pc, .bool true] 26)))
        have z2 : (w2.alloc (.cells #[.string ⟨s.toArray⟩, .slice PA pn pc, .bool false] 26)).cell? ⟨w2.heap.size, 2, none⟩ = some (.bool false) := cell_of 2 hq
        have y2 := free_of 2 hq
        have hq4 := Lib.hid (hp_new w2 (.cells #[.string ⟨s.toArray⟩, .slice PA pn pc, .bool true] 26))
        have JF := Lib.hid (J4.out.row #[.string ⟨s.toArray⟩, .slice PA pn pc, .bool true])
        clear hpr hb hlo J2 hq hwl1
        go_wp2_with fail
        refine (C3.out _ _ J3.out).mono ?_
        rintro e wq ⟨rfl, rfl⟩
        go_wp2_with fail
        refine (C4.out _ _ J3.out).mono ?_
        rintro e wq ⟨rfl, rfl⟩
        go_wp2_with (first | (refine wpList_load_row rfl _ _ rfl w2.heap.size rfl _ _ _ _ hq4.out HU.out.2 rfl HU.out.1 ?_) | (refine wpList_store_row rfl _ _ _ rfl w.heap.size #[.string ⟨s.toArray⟩, .slice PA pn pc, .bool true] rfl rfl _ _ J4.out.2 (by kernel_rfl) rfl (by kernel_rfl) ?_))
        (try simp only [Exit.inBlock, Exit.then])
        refine bodyPost_ret (results_c3 rfl _ _ w.heap.size _ _ _ _ rfl JF.out.2 HU.out.2 rfl HU.out.1) rfl ⟨PA, pn, pc, rfl, HP.out.1.move ?_ ?_, JF.out.1⟩
        · simp [World.setRow]
        · intro b' i' hA hb'
          have hlt := HP.out.2 b' i' hA
          rw [setRow_at _ _ _ _ (by omega), Below.heap_alloc _ _ _ hb']
      | false =>
        simp only [Bool.false_eq_true, if_false]
        cases r2 with
        | true =>
          simp only [if_true]
          go_enter Tryd.func9, Tryd.ntmps9
          go_wp2_with fail
          refine C1.out.mono ?_
          rintro e w1 ⟨rfl, hb⟩
          have J1 := Lib.hid (J0.out.kept hb)
          clear hb
          go_wp2_with fail
          refine (C2.out _ _ J1.out).mono ?_
          rintro e w2 ⟨PA, pn, pc, rfl, hpr, hb, hlo⟩
          have J2 := J1.out.kept hb
          have HP := Lib.hid (And.intro hpr (fun b i h => Nat.lt_of_lt_of_le (lt_of J1.out.2) (hlo b i h)))
          have hq := hp_new w2 (.cells #[.string ⟨s.toArray⟩, .slice PA pn pc, .bool false] 26)
          have J3 := Lib.hid (J2.kept ((Below.refl _ w2).alloc (Nat.le_refl _) (.cells #[.string ⟨s.toArray⟩, .slice PA pn pc, .bool false] 26)))
          have hq4 := Lib.hid hq
          have JF := Lib.hid (J3.out.row #[.string ⟨s.toArray⟩, .slice PA pn pc, .bool false])
          clear hpr hb hlo J2 hq
          go_wp2_with fail
          refine (C3.out _ _ J3.out).mono ?_
          rintro e wq ⟨rfl, rfl⟩
          go_wp2_with fail
          refine (C4.out _ _ J3.out).mono ?_
          rintro e wq ⟨rfl, rfl⟩
          go_wp2_with fail
          refine (C5.out _ _ J3.out).mono ?_
          rintro e wq ⟨rfl, rfl⟩
          go_wp2_with (first | (refine wpList_load_row rfl _ _ rfl w2.heap.size rfl _ _ _ _ hq4.out HU.out.2 rfl HU.out.1 ?_) | (refine wpList_store_row rfl _ _ _ rfl w.heap.size #[.string ⟨s.toArray⟩, .slice PA pn pc, .bool false] rfl rfl _ _ J3.out.2 (by kernel_rfl) rfl (by kernel_rfl) ?_))
          (try simp only [Exit.inBlock, Exit.then])
          refine bodyPost_ret (results_c3 rfl _ _ w.heap.size _ _ _ _ rfl JF.out.2 HU.out.2 rfl HU.out.1) rfl ⟨PA, pn, pc, rfl, HP.out.1.move ?_ ?_, JF.out.1⟩
          · simp [World.setRow]
          · intro b' i' hA hb'
            have hlt := HP.out.2 b' i' hA
            rw [setRow_at _ _ _ _ (by omega), Below.heap_alloc _ _ _ hb']
        | false =>
          simp only [Bool.false_eq_true, if_false]
          go_enter Tryd.func9, Tryd.ntmps9
          go_wp2_with fail
          refine C1.out.mono ?_
          rintro e w1 ⟨rfl, hb⟩
          have J1 := Lib.hid (J0.out.kept hb)
          clear hb
          go_wp2_with fail
          refine (C2.out _ _ J1.out).mono ?_
          rintro e w2 ⟨PA, pn, pc, rfl, hpr, hb, hlo⟩
          have J2 := J1.out.kept hb
          have J3 := Lib.hid (J2.kept ((Below.refl _ w2).alloc (Nat.le_refl _) (.cells #[.string ⟨s.toArray⟩, .slice PA pn pc, .bool false] 26)))
          have JF := Lib.hid (J3.out.row #[.string ⟨#[]⟩, .slice none 0 0, .bool false])
          clear hpr hb hlo J2
          go_wp2_with fail
          refine (C3.out _ _ J3.out).mono ?_
          rintro e wq ⟨rfl, rfl⟩
          go_wp2_with fail
          refine (C4.out _ _ J3.out).mono ?_
          rintro e wq ⟨rfl, rfl⟩
          go_wp2_with fail
          refine (C5.out _ _ J3.out).mono ?_
          rintro e wq ⟨rfl, rfl⟩
          go_wp2_with (refine wpList_store_row rfl _ _ _ rfl w.heap.size #[.string ⟨#[]⟩, .slice none 0 0, .bool false] rfl rfl _ _ J3.out.2 (by kernel_rfl) rfl (by kernel_rfl) ?_)
          (try simp only [Exit.inBlock, Exit.then])
          exact bodyPost_ret (results_c3 rfl _ _ w.heap.size _ _ _ _ rfl JF.out.2 HU.out.2 rfl HU.out.1) rfl ⟨none, 0, 0, rfl, PRd.nilR _ _, JF.out.1⟩
    · rw [if_pos hpe]
      have hei : ((pe : Int) == 0) = false := by simp; omega
      clear CB CS CP HK hln hno hpo hnx hpn hm hk
      go_enter Tryd.func9, Tryd.ntmps9
      go_wp2_with fail
      refine C1.out.mono ?_
      rintro e w1 ⟨rfl, hb⟩
      have J1 := Lib.hid (J0.out.kept hb)
      clear hb
      go_wp2_with fail
      refine (C2.out _ _ J1.out).mono ?_
      rintro e w2 ⟨PA, pn, pc, rfl, hpr, hb, hlo⟩
      have J2 := Lib.hid (J1.out.kept hb)
      have JF := Lib.hid (J2.out.row #[.string ⟨#[]⟩, .slice none 0 0, .bool false])
      clear hpr hb hlo
      go_wp2_with (refine wpList_store_row rfl _ _ _ rfl w.heap.size #[.string ⟨#[]⟩, .slice none 0 0, .bool false] rfl rfl _ _ J2.out.2 (by kernel_rfl) rfl (by kernel_rfl) ?_)
      (try simp only [Exit.inBlock, Exit.then])
      exact bodyPost_ret (results_c3 rfl _ _ w.heap.size _ _ _ _ rfl JF.out.2 HU.out.2 rfl HU.out.1) rfl ⟨none, 0, 0, rfl, PRd.nilR _ _, JF.out.1⟩
  · rw [if_pos he]
    have hei : ((e : Int) == 0) = false := by simp; omega
    clear CB CS CP HK hln hno hpo hm hk
    go_enter Tryd.func9, Tryd.ntmps9
    go_wp2_with fail
    refine C1.out.mono ?_
    rintro e w1 ⟨rfl, hb⟩
    have J1 := Lib.hid (J0.out.kept hb)
    clear hb
    have JF := Lib.hid (J1.out.row #[.string ⟨#[]⟩, .slice none 0 0, .bool false])
    go_wp2_with (refine wpList_store_row rfl _ _ _ rfl w.heap.size #[.string ⟨#[]⟩, .slice none 0 0, .bool false] rfl rfl _ _ J1.out.2 (by kernel_rfl) rfl (by kernel_rfl) ?_)
    (try simp only [Exit.inBlock, Exit.then])
    exact bodyPost_ret (results_c3 rfl _ _ w.heap.size _ _ _ _ rfl JF.out.2 HU.out.2 rfl HU.out.1) rfl ⟨none, 0, 0, rfl, PRd.nilR _ _, JF.out.1⟩
set_option maxRecDepth 100000 in
set_option maxHeartbeats 4000000 in
theorem tagOpen_range (A : Option Addr) (n cap : Nat) (at_ : Int) (w : World) (ha : at_ < 0 ∨ (n : Int) < at_) :
    Calls Tryd.prog 9 #[.slice A n cap, .int .i64 at_] w fun e w' => OpenPost (noTag, 0, 3) w e w' := by
  have J0 := Lib.hid (CJ.start 26 w #[.string ⟨#[]⟩, .slice none 0 0, .bool false])
  have hi : (Tryd.prog.info? 26).map (·.size) = some 3 := by kernel_rfl
  obtain ⟨d, hu⟩ := isStruct_of (P := Tryd.prog) (t := 26) (by kernel_rfl)
  have HU := Lib.hid (And.intro hi hu)
  have C1 := Lib.hid (tagBegin_range A n cap at_ [60] (w.alloc (.cells #[.string ⟨#[]⟩, .slice none 0 0, .bool false] 26)) ha)
  have JF := Lib.hid (J0.out.row #[.string ⟨#[]⟩, .slice none 0 0, .bool false])
  clear ha hi hu
  unfold outV at *
  go_enter Tryd.func9, Tryd.ntmps9
  go_wp2_with fail
  refine (C1.out).mono ?_
  rintro e wq ⟨rfl, rfl⟩
  go_wp2_with (refine wpList_store_row rfl _ _ _ rfl w.heap.size #[.string ⟨#[]⟩, .slice none 0 0, .bool false] rfl rfl _ _ J0.out.2 (by kernel_rfl) rfl (by kernel_rfl) ?_)
  (try simp only [Exit.inBlock, Exit.then])
  exact bodyPost_ret (results_c3 rfl _ _ w.heap.size _ _ _ _ rfl JF.out.2 HU.out.2 rfl HU.out.1) rfl ⟨none, 0, 0, rfl, PRd.nilR _ _, JF.out.1⟩
/-- narthex/tag.Open at any place. -/
theorem tagOpen_c (A : Option Addr) (n cap : Nat) (l : List UInt8) (at_ : Int) (w : World) (h : Byt w w.heap.size A n cap l) (hW : W10 w) (hm : n ≤ 40000) :
    Calls Tryd.prog 9 #[.slice A n cap, .int .i64 at_] w fun e w' => OpenPost (tagAt noTag openOut l at_) w e w' := by
  unfold tagAt
  rw [h.length]
  by_cases ha : at_ < 0 ∨ (n : Int) < at_
  · rw [if_pos ha]; exact tagOpen_range A n cap at_ w ha
  · rw [if_neg ha]
    obtain ⟨k, rfl⟩ : ∃ k : Nat, at_ = (k : Int) := ⟨at_.toNat, by omega⟩
    exact tagOpen_in A n cap l k w h hW hm (by omega)
theorem okFalse (f : Int → Bool) : okName false f = f := by funext r; simp [okName]
set_option maxRecDepth 100000 in
set_option maxHeartbeats 2000000 in
theorem refReadF_c (A : Option Addr) (n cap : Nat) (l : List UInt8) (at_ : Nat) (w : World) (h : Byt w w.heap.size A n cap l) (hm : n ≤ 50000) (hat : at_ ≤ n) :
    Calls Tryd.prog 84 #[.slice A n cap, .int .i64 at_, .bool false] w fun e w' => e = .returned (outV (nameOut l at_)) ∧ Below w.heap.size w w' := by
  have hln := h.length
  have hend := refEnd_c false A n cap l at_ w h hm hat
  rw [okFalse, okFalse] at hend
  have hkl : at_ + endL isStart isMore n (l.drop at_) ≤ n := by
    have := endL_le n isStart isMore (l.drop at_)
    rw [List.length_drop, hln] at this
    omega
  have HB := Lib.hid h
  have HE : Hid (endL isStart isMore l.length (l.drop at_) = endL isStart isMore n (l.drop at_)) := Lib.hid (by rw [hln])
  clear h hln
  unfold nameOut
  simp only [HE.out]
  generalize endL isStart isMore n (l.drop at_) = k at *
  have hat' : ¬ (n : Int) < (at_ : Int) := by omega
  have HM := Lib.hid (And.intro hm hat)
  have HN := Lib.hid hend
  clear hm hend
  generalize hres : (if k = 0 then ([], 0, 7) else if 1024 < k then ([], 0, 11) else ((l.drop at_).take k, at_ + k, 0)) = res
  have HR := Lib.hid hres
  clear hres
  go_enter Tryd.func84, Tryd.ntmps84
  go_wp2_with fail
  refine HN.out.mono ?_
  rintro e w1 ⟨rfl, hb1⟩
  have HB1 := Lib.hid hb1
  clear hb1
  rcases (show k = 0 ∨ 1024 < k ∨ (0 < k ∧ k ≤ 1024) by omega) with h0 | h0 | h0
  · subst h0
    have hre := HR.out
    simp only [if_true] at hre
    subst hre
    go_wp2
    go_ret3
    exact ⟨rfl, HB1.out⟩
  · have hre := HR.out
    rw [if_neg (by omega), if_pos h0] at hre
    subst hre
    have hne : (((at_ + k : Nat) : Int) == (at_ : Int)) = false := by simp; omega
    have hne2 : ((at_ : Int) + (k : Int) == (at_ : Int)) = false := by simp; omega
    have h0' : (1024 : Int) < (k : Int) := by omega
    have hsb : ((at_ : Int) + (k : Int)) - (at_ : Int) = (k : Int) := by omega
    have hw : IntKind.i64.wrap (k : Int) = (k : Int) := by rw [IntKind.wrap_i64]; have := HM.out; omega
    go_wp2
    go_ret3
    exact ⟨rfl, HB1.out⟩
  · have hre := HR.out
    rw [if_neg (by omega), if_neg (by omega)] at hre
    subst hre
    have hne : (((at_ + k : Nat) : Int) == (at_ : Int)) = false := by simp; omega
    have hne2 : ((at_ : Int) + (k : Int) == (at_ : Int)) = false := by simp; omega
    have h0' : ¬ (1024 : Int) < (k : Int) := by omega
    have hsb : ((at_ : Int) + (k : Int)) - (at_ : Int) = (k : Int) := by omega
    have hw : IntKind.i64.wrap (k : Int) = (k : Int) := by rw [IntKind.wrap_i64]; have := HM.out; omega
    have hy := ((HB.out.below HB1.out).drop hat).take (k := k) (by omega)
    have hstr := hy.str
    have hcap := HB.out.le
    have hrf : ∀ w2 : World, (Instr.slice 22 (.slice A n cap) (some (.int .i64 (at_ : Int))) (some (.int .i64 ((at_ : Int) + (k : Int)))) none).run Tryd.prog w2 = .ok (.slice (cutA A cap at_) k (cap - at_)) w2 := fun w2 => by
      have := run_fromTo (w := w2) A n cap at_ (at_ + k) (by omega) (by omega)
      rw [show at_ + k - at_ = k by omega, show ((at_ + k : Nat) : Int) = (at_ : Int) + (k : Int) by omega] at this
      exact this
    have HY := Lib.hid hy
    clear hy hcap h0
    go_wp2
    go_ret3
    exact ⟨rfl, HB1.out⟩

set_option maxRecDepth 100000 in
set_option maxHeartbeats 4000000 in
theorem refHas10_c (A : Option Addr) (n cap : Nat) (ps : List PairL) (s : List UInt8) (B : Nat) (w : World) (h : PRd w B A n cap ps) (hm : n ≤ 1000000) :
    Calls Tryd.prog 32 #[.slice A n cap, .string ⟨s.toArray⟩] w fun e w' => e = .returned (.bool (hasN ps s)) ∧ w = w' := by
  have HB := Lib.hid h
  have hln := Lib.hid h.len
  clear h
  go_enter Tryd.func32, Tryd.ntmps32
  go_wp2
  go_loopg [5] (n) (fun g i wr => ∃ t : Nat, t ≤ n ∧ Hid (g + t = n) ∧ i = .int .i64 (t : Int) ∧ w = wr ∧ Hid (hasN ps s = hasN (ps.drop t) s))
  case atStart => exact ⟨0, Nat.zero_le _, Lib.hid (by omega), rfl, rfl, Lib.hid rfl⟩
  case round =>
    obtain ⟨t, ht, hg, rfl, rfl, HN⟩ := hrel
    have ht0 : (0 : Int) ≤ (t : Int) := by omega
    have htb : (t : Int) ≤ 1000000 := by omega
    by_cases htn : t < n
    · have htni : (t : Int) < (n : Int) := by omega
      obtain ⟨b, o, p, rfl, hb, hp, hc0, hc1⟩ := HB.out.cell htn
      have hd : ps.drop t = p :: ps.drop (t + 1) := by
        obtain ⟨hk, hc⟩ := List.getElem?_eq_some_iff.1 hp
        rw [List.drop_eq_getElem_cons hk, hc]
      obtain ⟨pn, pv⟩ := p
      simp only at hc0
      by_cases hs : pn = s
      · subst hs
        have HE : Hid (hasN ps pn = true) := Lib.hid (by rw [HN.out, hd]; simp [hasN])
        clear hd hp hc1 hb
        go_wp2
        go_ret
        exact ⟨by rw [HE.out]; rfl, rfl⟩
      · have HE : Hid (hasN ps s = hasN (ps.drop (t + 1)) s) := Lib.hid (by rw [HN.out, hd]; simp [hasN, hs])
        have hne : (pn == s) = false := by simpa using hs
        clear hd hp hc1 hb
        go_wp2
        go_roundg (n - (t + 1))
        case measure => have := hg.out; omega
        case rel => exact ⟨t + 1, by omega, Lib.hid (by omega), by go_num, rfl, HE⟩
    · have htni : ¬ (t : Int) < (n : Int) := by omega
      have HE : Hid (hasN ps s = false) := Lib.hid (by rw [HN.out, List.drop_of_length_le (by rw [hln.out]; omega)]; rfl)
      go_wp2
      go_ret
      exact ⟨by rw [HE.out]; rfl, rfl⟩
/-- While attributes are read, on the document's side. -/
def PhJ (w wr : World) (v : Value) (acc : List PairL) : Prop := Below w.heap.size w wr ∧ wr.ownsRow w.heap.size 31 2 v acc.length (cellsP acc)
theorem PhJ.kept {w wr w' : World} {v : Value} {acc : List PairL} (h : PhJ w wr v acc) (hb : Below wr.heap.size wr w') : PhJ w w' v acc :=
  ⟨h.1.trans (hb.mono h.1.size), ownsRow_keep h.2 fun g _ hg => hb.block g hg⟩
theorem PhJ.start (w : World) : PhJ w w (.slice none 0 0) [] := ⟨Below.refl _ _, rfl, Or.inl ⟨rfl, rfl⟩⟩
theorem PhJ.appended {w w3 w4 : World} {v v4 : Value} {acc : List PairL} {p : PairL} {cs : Array Value} {T : TypeId} (h : PhJ w w3 v acc) (hn : w4.ownsRow w.heap.size 31 2 v4 (acc ++ [p]).length (cellsP (acc ++ [p]))) (hg : (w3.alloc (.cells cs T)).grownBy w4 v.ownBlock) : PhJ w w4 v4 (acc ++ [p]) := by
  have hs := h.1.size
  refine ⟨(h.1.alloc h.1.size (.cells cs T)).grown hg (by simp; omega) fun k hk => ?_, hn⟩
  exact (h.2.lt k hk).1
theorem PRd.drewN {w : World} {B n cap k : Nat} {A : Option Addr} {ps : List PairL} (h : PRd w B A n cap ps) : PRd (w.drewN k) B A n cap ps := h.keep (w' := w.drewN k) fun _ _ => rfl
set_option maxRecDepth 100000 in
set_option maxHeartbeats 4000000 in
theorem same10_c (A1 A2 : Option Addr) (n c1 c2 : Nat) (ps : List PairL) (w : World) (h1 : PRd w w.heap.size A1 n c1 ps) (h2 : PRd w w.heap.size A2 n c2 ps) (hm : n ≤ 1000000) :
    Calls Tryd.prog 11 #[.slice A1 n c1, .slice A2 n c2] w fun e w' => e = .returned (.bool true) ∧ Below w.heap.size w w' := by
  have HB := Lib.hid (And.intro h1 h2)
  clear h1 h2
  go_enter Tryd.func11, Tryd.ntmps11
  go_wp2
  go_loopg [5] (n) (fun g i wr => ∃ t : Nat, t ≤ n ∧ Hid (g + t = n) ∧ i = .int .i64 (t : Int) ∧ Hid (Below w.heap.size w wr))
  case atStart => exact ⟨0, Nat.zero_le _, Lib.hid (by omega), rfl, Lib.hid (Below.refl _ _)⟩
  case round =>
    obtain ⟨t, ht, hg, rfl, HN⟩ := hrel
    have ht0 : (0 : Int) ≤ (t : Int) := by omega
    have htb : (t : Int) ≤ 1000000 := by omega
    by_cases htn : t < n
    · have htni : (t : Int) < (n : Int) := by omega
      obtain ⟨b, o, p, rfl, hb, hp, hc0, hc1⟩ := (HB.out.1.below HN.out).cell htn
      obtain ⟨b2, o2, p2, rfl, hb2, hp2, hd0, hd1⟩ := (HB.out.2.below HN.out).cell htn
      obtain rfl : p = p2 := by rw [hp] at hp2; exact Option.some.inj hp2
      obtain ⟨pn, pv⟩ := p
      simp only at hc0 hc1 hd0 hd1
      clear hp hp2 hb hb2
      go_wp2
      go_quiet (fail)
      have HN2 := Lib.hid (below_drewN' (n := nq) HN.out)
      clear hc0 hc1 hd0 hd1
      generalize wr.drewN nq = wq at *
      go_wp2
      go_roundg (n - (t + 1))
      case measure => have := hg.out; omega
      case rel => exact ⟨t + 1, by omega, Lib.hid (by omega), by go_num, HN2⟩
    · have htni : ¬ (t : Int) < (n : Int) := by omega
      go_wp2
      go_ret
      exact ⟨rfl, HN.out⟩
set_option maxRecDepth 100000 in
set_option maxHeartbeats 8000000 in
theorem live10_c (w : World) (hW : W10 w) : Calls Tryd.prog 8 #[] w fun e w' => e = .returned (.bool true) ∧ Below w.heap.size w w' := by
  have kc := fun (w : World) (C : Array Value) (n c : Nat) => Lib.run_convert_bytes_const (P := Tryd.prog) w 22 5 C n c Tryd.underlying22 Tryd.underlying5
  have C1 : Hid (∀ W, Below w.heap.size w W → Calls Tryd.prog 9 #[.slice (some ⟨W.heap.size, 0, none⟩) 11 11, .int .i64 0] (W.alloc (.cells #[.int .u8 60, .int .u8 97, .int .u8 32, .int .u8 98, .int .u8 61, .int .u8 39, .int .u8 99, .int .u8 39, .int .u8 32, .int .u8 47, .int .u8 62] 5 (11, 12))) fun e w' => ∃ A n c, e = .returned (.tuple #[.agg #[.string ⟨#[97]⟩, .slice A n c, .bool true], .int .i64 11, .int .i64 0]) ∧ PRd w' w'.heap.size A n c [([98], [99])] ∧ Below w.heap.size w w') := Lib.hid fun W hb => by
    have k1 := alloc_const W [60, 97, 32, 98, 61, 39, 99, 39, 32, 47, 62] (11, 12) (by decide)
    have hb1 := hb.trans (k1.1.mono hb.size)
    have := tagOpen_in _ _ _ _ 0 _ (k1.2.more (by simp)) (hW.below hb1) (by decide) (by decide)
    rw [show openOut [60, 97, 32, 98, 61, 39, 99, 39, 32, 47, 62] 0 = (⟨[97], [([98], [99])], true⟩, 11, 0) by kernel_rfl] at this
    exact this.mono fun e w' ⟨A, n, c, he, hp, hb2⟩ => ⟨A, n, c, he, hp, hb1.trans (hb2.mono hb1.size)⟩
  have C2 : Hid (∀ W, Below w.heap.size w W → Calls Tryd.prog 9 #[.slice (some ⟨W.heap.size, 0, none⟩) 15 15, .int .i64 0] (W.alloc (.cells #[.int .u8 60, .int .u8 97, .int .u8 32, .int .u8 98, .int .u8 61, .int .u8 39, .int .u8 49, .int .u8 39, .int .u8 32, .int .u8 98, .int .u8 61, .int .u8 39, .int .u8 50, .int .u8 39, .int .u8 62] 5 (15, 16))) fun e w' => ∃ A n c, e = .returned (.tuple #[.agg #[.string ⟨#[]⟩, .slice A n c, .bool false], .int .i64 0, .int .i64 12]) ∧ Below W.heap.size W w') := Lib.hid fun W hb => by
    have k1 := alloc_const W [60, 97, 32, 98, 61, 39, 49, 39, 32, 98, 61, 39, 50, 39, 62] (15, 16) (by decide)
    have hb1 := hb.trans (k1.1.mono hb.size)
    have := tagOpen_in _ _ _ _ 0 _ (k1.2.more (by simp)) (hW.below hb1) (by decide) (by decide)
    rw [show openOut [60, 97, 32, 98, 61, 39, 49, 39, 32, 98, 61, 39, 50, 39, 62] 0 = (noTag, 0, 12) by kernel_rfl] at this
    exact this.mono fun e w' ⟨A, n, c, he, hp, hb2⟩ => ⟨A, n, c, he, k1.1.trans (hb2.mono k1.1.size)⟩
  clear hW
  go_enter Tryd.func8, Tryd.ntmps8
  go_wp2_with fail
  refine (C1.out _ (Below.refl _ _)).mono ?_
  rintro e w1 ⟨A, n, c, rfl, hp, hb⟩
  obtain rfl : 1 = n := hp.len
  have HP := Lib.hid hp
  have B1 := Lib.hid hb
  have hq := hp_new w1 (.cells #[.string ⟨#[97]⟩, .slice A 1 c, .bool true] 26)
  have ka := (Below.refl _ w1).alloc (Nat.le_refl _) (.cells #[.string ⟨#[97]⟩, .slice A 1 c, .bool true] 26)
  have B1a := Lib.hid (hb.trans (ka.mono hb.size))
  have HQ := Lib.hid (And.intro hq ka)
  clear hp hb hq ka
  go_wp2_with fail
  generalize hv : w1.alloc (.cells #[.string ⟨#[97]⟩, .slice A 1 c, .bool true] 26) = v1 at *
  have hs : w1.heap.size + 1 = v1.heap.size := by rw [← hv]; simp
  rw [hs, kc v1]
  clear hv
  go_wp2_with fail
  refine (C2.out _ B1a.out).mono ?_
  rintro e w2 ⟨A2, n2, c2, rfl, hb⟩
  clear kc
  have ka2 := (Below.refl _ w2).alloc (Nat.le_refl _) (.cells #[.string ⟨#[]⟩, .slice A2 n2 c2, .bool false] 26)
  have hq2 : (w2.alloc (.cells #[.string ⟨#[]⟩, .slice A2 n2 c2, .bool false] 26)).heap[w1.heap.size]? = some (.cells #[.string ⟨#[97]⟩, .slice A 1 c, .bool true] 26) := by
    rw [Below.heap_alloc _ _ _ (by have := hb.size; omega), hb.block _ (by omega)]
    exact HQ.out.1
  have z0 := cell_of 0 hq2
  have z1 := cell_of 1 hq2
  have z2 := cell_of 2 hq2
  have hsz2 := hb.size
  have B2 := Lib.hid (B1a.out.trans ((hb.trans (ka2.mono hb.size)).mono B1a.out.size))
  have HS : Hid (Calls Tryd.prog 11 #[.slice A 1 c, .slice (some ⟨w2.heap.size + 1, 0, none⟩) 1 1] ((w2.alloc (.cells #[.string ⟨#[]⟩, .slice A2 n2 c2, .bool false] 26)).alloc (.cells #[.string ⟨#[98]⟩, .string ⟨#[99]⟩] 31)) fun e w' => e = .returned (.bool true) ∧ w'.cell? ⟨w1.heap.size, 2, none⟩ = some (.bool true) ∧ Hid (Below w.heap.size w w')) := Lib.hid (by
    have kb := (Below.refl _ (w2.alloc (.cells #[.string ⟨#[]⟩, .slice A2 n2 c2, .bool false] 26))).alloc (Nat.le_refl _) (.cells #[.string ⟨#[98]⟩, .string ⟨#[99]⟩] 31)
    have h1 : PRd ((w2.alloc (.cells #[.string ⟨#[]⟩, .slice A2 n2 c2, .bool false] 26)).alloc (.cells #[.string ⟨#[98]⟩, .string ⟨#[99]⟩] 31)) ((w2.alloc (.cells #[.string ⟨#[]⟩, .slice A2 n2 c2, .bool false] 26)).alloc (.cells #[.string ⟨#[98]⟩, .string ⟨#[99]⟩] 31)).heap.size A 1 c [([98], [99])] :=
      ((((HP.out.below HQ.out.2).below (hb.mono (by omega))).below (ka2.mono (by omega))).below (kb.mono (by simp; omega))).more (by simp; omega)
    have h2 : PRd ((w2.alloc (.cells #[.string ⟨#[]⟩, .slice A2 n2 c2, .bool false] 26)).alloc (.cells #[.string ⟨#[98]⟩, .string ⟨#[99]⟩] 31)) ((w2.alloc (.cells #[.string ⟨#[]⟩, .slice A2 n2 c2, .bool false] 26)).alloc (.cells #[.string ⟨#[98]⟩, .string ⟨#[99]⟩] 31)).heap.size (some ⟨w2.heap.size + 1, 0, none⟩) 1 1 [([98], [99])] :=
      ⟨rfl, Nat.le_refl _, by unfold maxLen; omega, (fun e => by cases e), fun _ => ⟨w2.heap.size + 1, 0, rfl, by simp, fun i p hp => by
        cases i with
        | zero =>
          simp at hp
          subst hp
          have hn := hp_new (w2.alloc (.cells #[.string ⟨#[]⟩, .slice A2 n2 c2, .bool false] 26)) (.cells #[.string ⟨#[98]⟩, .string ⟨#[99]⟩] 31)
          rw [World.size_alloc] at hn
          exact ⟨by rw [cell_of _ hn]; rfl, by rw [cell_of _ hn]; rfl⟩
        | succ i => simp at hp⟩⟩
    refine (same10_c _ _ _ _ _ _ _ h1 h2 (by decide)).mono fun e w' ⟨he, hb3⟩ => ⟨he, ?_, Lib.hid (B2.out.trans ((kb.trans (hb3.mono kb.size)).mono B2.out.size))⟩
    have hc := (kb.trans (hb3.mono kb.size)).cell (p := ⟨w1.heap.size, 2, none⟩) (by simp; omega)
    rw [hc]
    exact z2)
  clear hb ka2 hq2 HP HQ
  go_wp2_with fail
  refine HS.out.mono ?_
  rintro e w3 ⟨rfl, z3, B3⟩
  clear z0 z1 z2
  go_wp2
  go_ret
  exact ⟨rfl, B3.out⟩
/-- A name, of at most 1024 bytes. -/
def nameOk (s : List UInt8) : Bool := wholeB isStart isMore s && decide (s.length ≤ 1024)
/-- A value that may stand between quotes. -/
def valOk (v : List UInt8) : Bool := decide ((refsOut v).2 = 0) && (v.all fun c => decide (c ≠ 60)) && (v.all fun c => decide (c ≠ 34))
def pairT (p : PairL) : List UInt8 := 32 :: (p.1 ++ 61 :: 34 :: (p.2 ++ [34]))
def pairsT (ps : List PairL) : List UInt8 := ps.flatMap pairT
def endT (e : Bool) : List UInt8 := if e then [47, 62] else [62]
/-- A tag, as it is written. -/
def tagT (t : TagL) : List UInt8 := 60 :: (t.name ++ (pairsT t.pairs ++ endT t.empty))
theorem name_whole {s : List UInt8} (h : nameOk s = true) : s ≠ [] ∧ endL isStart isMore s.length s = s.length ∧ s.length ≤ 1024 := by
  unfold nameOk wholeB at h
  simp only [Bool.and_eq_true, decide_eq_true_eq, Bool.not_eq_true'] at h
  obtain ⟨⟨h1, h2⟩, h3⟩ := h
  refine ⟨fun e => ?_, h2, h3⟩
  rw [e] at h1
  cases h1
theorem val_parts {v : List UInt8} (h : valOk v = true) : (refsOut v).2 = 0 ∧ (∀ c ∈ v, c ≠ 60) ∧ ∀ c ∈ v, c ≠ 34 := by
  unfold valOk at h
  simp only [Bool.and_eq_true, decide_eq_true_eq, List.all_eq_true] at h
  exact ⟨h.1.1, h.1.2, h.2⟩
theorem name_head {s : List UInt8} (h : nameOk s = true) : ∃ c t, s = c :: t ∧ isBl c = false ∧ c ≠ 47 ∧ c ≠ 62 := by
  obtain ⟨hne, he, _⟩ := name_whole h
  cases s with
  | nil => exact absurd rfl hne
  | cons c t =>
    have key : ∀ d : UInt8, d.toNat < 128 → isStart (d.toNat : Int) = false → c ≠ d := by
      intro d hd hs e
      subst e
      rw [endL_stop _ _ c t hd hs] at he
      simp at he
    refine ⟨c, t, rfl, ?_, key 47 (by decide) (by decide +kernel), key 62 (by decide) (by decide +kernel)⟩
    have tn : ∀ d : UInt8, c ≠ d → c.toNat ≠ d.toNat := fun d hd e => hd (UInt8.toNat_inj.1 e)
    have a1 : c.toNat ≠ 32 := tn 32 (key 32 (by decide) (by decide +kernel))
    have a2 : c.toNat ≠ 9 := tn 9 (key 9 (by decide) (by decide +kernel))
    have a3 : c.toNat ≠ 13 := tn 13 (key 13 (by decide) (by decide +kernel))
    have a4 : c.toNat ≠ 10 := tn 10 (key 10 (by decide) (by decide +kernel))
    cases hb : isBl c with
    | false => rfl
    | true =>
      exfalso
      unfold isBl isBlank at hb
      simp only [Bool.or_eq_true, beq_iff_eq] at hb
      omega
theorem name_mid (a s r : List UInt8) (c : UInt8) (h : nameOk s = true) (hc : c.toNat < 128) (hm : isMore (c.toNat : Int) = false) : nameOut (a ++ (s ++ c :: r)) a.length = (s, a.length + s.length, 0) := by
  obtain ⟨hne, he, hl⟩ := name_whole h
  unfold nameOut
  have hk : endL isStart isMore (a ++ (s ++ c :: r)).length ((a ++ (s ++ c :: r)).drop a.length) = s.length := by
    rw [List.drop_left]
    exact endL_app isMore (c :: r) (endL_stop _ _ c r hc hm) s.length _ s _ hne (Nat.le_refl _) he (by simp only [List.length_append]; omega)
  simp only [hk]
  have h0 : s.length ≠ 0 := fun e => hne (List.length_eq_zero_iff.1 e)
  rw [if_neg h0, if_neg (by omega), List.drop_left, List.take_left]
theorem tq_quoted (a v r : List UInt8) (h : ∀ c ∈ v, c ≠ 34) : quotedAt (a ++ 34 :: (v ++ 34 :: r)) (a.length : Nat) = (v, a.length + v.length + 2, 0) := by
  unfold quotedAt
  rw [if_neg (by simp only [List.length_append, List.length_cons]; omega), Int.toNat_natCast]
  unfold quotedOut
  rw [show (a ++ 34 :: (v ++ 34 :: r))[a.length]? = some 34 by simp]
  simp only [true_or, if_true]
  unfold quotedQ
  have hd : (a ++ 34 :: (v ++ 34 :: r)).drop (a.length + 1) = v ++ 34 :: r := by
    rw [← List.drop_drop, List.drop_left]; rfl
  rw [hd, ix_eq 34 (v ++ 34 :: r) v.length (by simp) (fun i hi e => by
    rw [List.getElem?_append_left hi] at e
    exact h _ (List.mem_of_getElem? e) rfl), if_neg (by omega), Int.toNat_natCast, List.take_left]
theorem strict_mid (a v r : List UInt8) (h : valOk v = true) : strictAt 60 (a ++ 34 :: (v ++ 34 :: r)) (a.length : Nat) = (v, a.length + v.length + 2, 0) := by
  obtain ⟨h1, h2, h3⟩ := val_parts h
  unfold strictAt
  rw [tq_quoted a v r h3]
  simp only
  rw [if_neg (by simp), if_neg (by rw [ix_eq_none 60 v (fun i e => h2 _ (List.mem_of_getElem? e) rfl)]; omega), if_neg (by simp [h1])]
theorem tq_blank (a : List UInt8) (c : UInt8) (r : List UInt8) (h : isBl c = false) : blankTo (a ++ c :: r) a.length = a.length := blankTo_no _ _ c (by simp) h
theorem tq_blank1 (a : List UInt8) (c : UInt8) (r : List UInt8) (h : isBl c = false) : blankTo (a ++ 32 :: c :: r) a.length = a.length + 1 := by
  rw [blankTo_yes _ _ 32 (by simp) (by decide +kernel)]
  exact blankTo_no (a ++ 32 :: c :: r) (a.length + 1) c (by rw [List.getElem?_append_right (by omega), show a.length + 1 - a.length = 1 by omega]; rfl) h
theorem pair_mid (a r : List UInt8) (p : PairL) (hn : nameOk p.1 = true) (hv : valOk p.2 = true) :
    pairOut (a ++ (p.1 ++ 61 :: 34 :: (p.2 ++ 34 :: r))) a.length = (p, a.length + p.1.length + p.2.length + 3, 0) := by
  have hnm := name_mid a p.1 (34 :: (p.2 ++ 34 :: r)) 61 hn (by decide) (by decide +kernel)
  have hl : a ++ (p.1 ++ 61 :: 34 :: (p.2 ++ 34 :: r)) = (a ++ p.1) ++ 61 :: 34 :: (p.2 ++ 34 :: r) := by simp
  have hbl : (a ++ p.1).length = a.length + p.1.length := List.length_append
  rw [hl] at hnm ⊢
  generalize a ++ p.1 = b at *
  unfold pairOut
  rw [hnm]
  simp only [if_true]
  rw [← hbl, tq_blank b 61 _ (by decide +kernel), if_pos (by simp)]
  have hl2 : b ++ 61 :: 34 :: (p.2 ++ 34 :: r) = (b ++ [61]) ++ 34 :: (p.2 ++ 34 :: r) := by simp
  have hb2 : blankTo (b ++ 61 :: 34 :: (p.2 ++ 34 :: r)) (b.length + 1) = (b ++ [61]).length := by
    rw [hl2, show b.length + 1 = (b ++ [61]).length by simp]
    exact tq_blank (b ++ [61]) 34 _ (by decide +kernel)
  rw [hb2, hl2, strict_mid (b ++ [61]) p.2 r hv]
  simp only [Prod.mk.injEq, and_true, true_and, List.length_append, List.length_cons, List.length_nil]
  omega
def okPs : List PairL → List PairL → Bool
  | _, [] => true
  | acc, p :: ps => nameOk p.1 && valOk p.2 && !hasN acc p.1 && okPs (acc ++ [p]) ps
theorem pairs_mid (c : UInt8) (r : List UInt8) (hc : isBl c = false) : ∀ (ps acc : List PairL) (a : List UInt8) (f : Nat), okPs acc ps = true → ps.length < f →
    pairsR (a ++ (pairsT ps ++ c :: r)) f acc a.length = (acc ++ ps, a.length + (pairsT ps).length, 0)
  | [], acc, a, f + 1, _, _ => by
    show pairsR (a ++ c :: r) (f + 1) acc a.length = _
    rw [pairs_stop (by rw [tq_blank a c r hc]; unfold stopB; simp), List.append_nil]
    rfl
  | p :: ps, acc, a, f + 1, hk, hf => by
    simp only [okPs, Bool.and_eq_true, Bool.not_eq_true'] at hk
    obtain ⟨⟨⟨h1, h2⟩, h3⟩, h4⟩ := hk
    obtain ⟨c0, t0, e0, g0, g1, g2⟩ := name_head h1
    have hl : a ++ (pairsT (p :: ps) ++ c :: r) = (a ++ [32]) ++ (p.1 ++ 61 :: 34 :: (p.2 ++ 34 :: (pairsT ps ++ c :: r))) := by
      simp [pairsT, pairT, List.flatMap_cons]
    have hl2 : a ++ (pairsT (p :: ps) ++ c :: r) = (a ++ pairT p) ++ (pairsT ps ++ c :: r) := by
      simp [pairsT, List.flatMap_cons]
    have hl3 : a ++ (pairsT (p :: ps) ++ c :: r) = a ++ 32 :: c0 :: (t0 ++ 61 :: 34 :: (p.2 ++ 34 :: (pairsT ps ++ c :: r))) := by
      rw [hl, e0]; simp
    have hb : blankTo (a ++ (pairsT (p :: ps) ++ c :: r)) a.length = a.length + 1 := by rw [hl3]; exact tq_blank1 a c0 _ g0
    have hpl : (pairT p).length = p.1.length + p.2.length + 4 := by simp [pairT]; omega
    have hp : pairOut (a ++ (pairsT (p :: ps) ++ c :: r)) (a.length + 1) = (p, (a ++ pairT p).length, 0) := by
      have := pair_mid (a ++ [32]) (pairsT ps ++ c :: r) p h1 h2
      rw [hl, show a.length + 1 = (a ++ [32]).length by simp, this]
      simp only [Prod.mk.injEq, and_true, true_and, List.length_append, List.length_cons, List.length_nil, hpl]
      omega
    have hs : stopB (a ++ (pairsT (p :: ps) ++ c :: r)) (a.length + 1) a.length = false := by
      unfold stopB
      rw [hl3, List.getElem?_append_right (by omega), show a.length + 1 - a.length = 1 by omega]
      simp [g1, g2]
    rw [pairs_more (by rw [hb]; exact hs) (by rw [hb, hp]) (by rw [hb, hp]; exact h3), hb, hp]
    simp only
    have ih := pairs_mid c r hc ps (acc ++ [p]) (a ++ pairT p) f h4 (by simp at hf; omega)
    rw [hl2, ih]
    simp only [Prod.mk.injEq, and_true, List.append_assoc, List.cons_append, List.nil_append, true_and, List.length_append, pairsT, List.flatMap_cons]
    omega
theorem tail_head (ps : List PairL) (e : Bool) : ∃ c r, pairsT ps ++ endT e = c :: r ∧ c.toNat < 128 ∧ isMore (c.toNat : Int) = false := by
  cases ps with
  | nil => cases e with
    | true => exact ⟨47, [62], rfl, by decide, by decide +kernel⟩
    | false => exact ⟨62, [], rfl, by decide, by decide +kernel⟩
  | cons p ps => exact ⟨32, _, rfl, by decide, by decide +kernel⟩
theorem pairsT_len : ∀ ps : List PairL, ps.length ≤ (pairsT ps).length
  | [] => Nat.zero_le _
  | p :: ps => by
    have := pairsT_len ps
    simp only [pairsT, List.flatMap_cons, List.length_append, List.length_cons, pairT] at this ⊢
    omega
/-- What is written of a tag is read as itself. -/
theorem tag_back (t : TagL) (hn : nameOk t.name = true) (hp : okPs [] t.pairs = true) : openOut (tagT t) 0 = (t, (tagT t).length, 0) := by
  obtain ⟨s, ps, e⟩ := t
  simp only at hn hp
  obtain ⟨c, r, hc, hc1, hc2⟩ := tail_head ps e
  have h1 : nameOut (tagT ⟨s, ps, e⟩) 1 = (s, 1 + s.length, 0) := by
    have := name_mid [60] s r c hn hc1 hc2
    rw [← hc] at this
    exact this
  have h2 : pairsOut (tagT ⟨s, ps, e⟩) (1 + s.length) = (ps, 1 + s.length + (pairsT ps).length, 0) := by
    have hl : (1 + s.length) = ((60 :: s : List UInt8)).length := by simp; omega
    have hlen := pairsT_len ps
    unfold pairsOut
    cases e with
    | true =>
      have := pairs_mid 47 [62] (by decide +kernel) ps [] (60 :: s) ((tagT ⟨s, ps, true⟩).length + 1) hp (by simp [tagT]; omega)
      rw [hl]
      exact this
    | false =>
      have := pairs_mid 62 [] (by decide +kernel) ps [] (60 :: s) ((tagT ⟨s, ps, false⟩).length + 1) hp (by simp [tagT]; omega)
      rw [hl]
      exact this
  have hd : (tagT ⟨s, ps, e⟩).drop (1 + s.length + (pairsT ps).length) = endT e := by
    have hl : 1 + s.length + (pairsT ps).length = (60 :: (s ++ pairsT ps)).length := by simp; omega
    rw [hl, show tagT ⟨s, ps, e⟩ = (60 :: (s ++ pairsT ps)) ++ endT e by simp [tagT], List.drop_left]
  have hb : blankTo (tagT ⟨s, ps, e⟩) (1 + s.length + (pairsT ps).length) = 1 + s.length + (pairsT ps).length := by
    unfold blankTo
    rw [hd]
    cases e <;> rfl
  unfold openOut
  rw [if_pos (by rfl), show 0 + 1 = 1 by rfl, h1]
  simp only
  rw [if_neg (by simp), h2]
  simp only
  rw [if_neg (by simp), hb, hd]
  cases e with
  | true => rw [if_pos (by rfl)]; simp [tagT, endT]; omega
  | false => rw [if_neg (by decide), if_pos (by rfl)]; simp [tagT, endT]; omega
theorem dec_take (l : List UInt8) (r n m : Nat) (h : dec l = some (r, n)) (hm : n ≤ m) : dec (l.take m) = some (r, n) := by
  cases l with
  | nil => simp [dec] at h
  | cons c t =>
    obtain ⟨m, rfl⟩ : ∃ m', m = m' + 1 := ⟨m - 1, by have := dec_le _ r n h; omega⟩
    have hn : n = lenB c.toNat := by
      simp only [dec] at h
      split at h
      · cases h
      · split at h
        · split at h
          · cases h; rfl
          · cases h
        · cases h
    simp only [dec, List.take_succ_cons] at h ⊢
    split at h
    · cases h
    · rename_i h0
      simp only [not_or, Nat.not_lt] at h0
      rw [if_neg (by simp only [not_or, Nat.not_lt, List.length_take]; exact ⟨h0.1, by omega⟩), List.take_take, Nat.min_eq_left (by omega)]
      exact h
theorem endL_take (g : Int → Bool) : ∀ (k : Nat) (f : Int → Bool) (l : List UInt8) (K : Nat), endL f g k l ≤ K → endL f g K (l.take (endL f g k l)) = endL f g k l
  | 0, f, l, K, _ => by
    show endL f g K (l.take 0) = 0
    exact endL_none _ _ _ _ rfl
  | k + 1, f, l, K, hK => by
    have z : endL f g K (l.take 0) = 0 := endL_none _ _ _ _ rfl
    cases hd : dec l with
    | none => rw [endL_none _ _ _ _ hd]; exact z
    | some v =>
      obtain ⟨r, n⟩ := v
      cases hf : f r with
      | false => rw [endL_no _ _ _ _ _ _ hd hf]; exact z
      | true =>
        rw [endL_yes _ _ _ _ _ _ hd hf] at hK ⊢
        have hle := dec_le _ r n hd
        obtain ⟨K, rfl⟩ : ∃ K', K = K' + 1 := ⟨K - 1, by omega⟩
        rw [endL_yes _ _ _ _ _ _ (dec_take l r n _ hd (by omega)) hf, List.drop_take, show n + endL g g k (l.drop n) - n = endL g g k (l.drop n) by omega, endL_take g k g (l.drop n) K (by omega)]
theorem read_name (l : List UInt8) (k : Nat) (hk : k ≤ l.length) (h : (nameOut l k).2.2 = 0) : nameOk (nameOut l k).1 = true := by
  have hle := endL_le l.length isStart isMore (l.drop k)
  have ht := endL_take isMore l.length isStart (l.drop k)
  unfold nameOut at h ⊢
  simp only at h ⊢
  generalize endL isStart isMore l.length (l.drop k) = m at *
  split
  · rename_i h0; rw [if_pos h0] at h; cases h
  · rename_i h0
    rw [if_neg h0] at h
    split
    · rename_i h1; rw [if_pos h1] at h; cases h
    · rename_i h1
      have hlen : ((l.drop k).take m).length = m := by rw [List.length_take]; omega
      simp only [nameOk, wholeB, Bool.and_eq_true, decide_eq_true_eq, Bool.not_eq_true', hlen]
      refine ⟨⟨?_, ht m (Nat.le_refl _)⟩, by omega⟩
      cases hx : (l.drop k).take m with
      | nil => rw [hx] at hlen; exact absurd hlen.symm h0
      | cons _ _ => rfl
theorem read_val (l : List UInt8) (p : Int) (h : (strictAt 60 l p).2.2 = 0) (h34 : ∀ c ∈ (strictAt 60 l p).1, c ≠ 34) : valOk (strictAt 60 l p).1 = true := by
  unfold strictAt at h h34 ⊢
  split
  · rename_i h0; rw [if_pos h0] at h; exact absurd h h0
  · rename_i h0
    rw [if_neg h0] at h h34
    split
    · rename_i h1; rw [if_pos h1] at h; cases h
    · rename_i h1
      rw [if_neg h1] at h h34
      split
      · rename_i h2; rw [if_pos h2] at h; exact absurd h h2
      · rename_i h2
        rw [if_neg h2] at h34
        simp only at h34 ⊢
        simp only [valOk, Bool.and_eq_true, decide_eq_true_eq, List.all_eq_true]
        refine ⟨⟨by omega, fun c hc e => ?_⟩, h34⟩
        obtain ⟨i, hi⟩ := List.getElem?_of_mem hc
        exact ix_none 60 (quotedAt l p).1 (by omega) i (by rw [hi, e])
theorem read_pair (l : List UInt8) (i : Nat) (hi : i ≤ l.length) (h : (pairOut l i).2.2 = 0) (h34 : ∀ c ∈ (pairOut l i).1.2, c ≠ 34) : nameOk (pairOut l i).1.1 = true ∧ valOk (pairOut l i).1.2 = true := by
  unfold pairOut at h h34 ⊢
  split
  · rename_i h0
    rw [if_pos h0] at h h34
    split
    · rename_i h1
      rw [if_pos h1] at h h34
      exact ⟨read_name l i hi h0, read_val l _ h h34⟩
    · rename_i h1
      rw [if_neg h1] at h
      cases h
  · rename_i h0
    rw [if_neg h0] at h
    exact absurd h h0
theorem read_pairs (l : List UInt8) : ∀ (f : Nat) (acc : List PairL) (t : Nat), t ≤ l.length → l.length + 1 ≤ f + t → (pairsR l f acc t).2.2 = 0 → (∀ p ∈ (pairsR l f acc t).1, ∀ c ∈ p.2, c ≠ 34) →
    ∃ qs, (pairsR l f acc t).1 = acc ++ qs ∧ okPs acc qs = true
  | 0, acc, t, ht, hf, _, _ => by omega
  | f + 1, acc, t, ht, hf, h, h34 => by
    have hb := blankTo_le l t ht
    cases hs : stopB l (blankTo l t) t with
    | true => rw [pairs_stop hs]; exact ⟨[], by simp, rfl⟩
    | false =>
      by_cases he : (pairOut l (blankTo l t)).2.2 = 0
      · cases hh : hasN acc (pairOut l (blankTo l t)).1.1 with
        | true => rw [pairs_twice hs he hh] at h; cases h
        | false =>
          rw [pairs_more hs he hh] at h h34 ⊢
          have hok := pairOut_ok l _ hb.2 he
          obtain ⟨qs, hq, hqo⟩ := read_pairs l f _ _ hok.2.1 (by omega) h h34
          have hm := read_pair l _ hb.2 he (h34 _ (by rw [hq]; simp))
          refine ⟨(pairOut l (blankTo l t)).1 :: qs, by rw [hq]; simp, ?_⟩
          simp only [okPs, hm.1, hm.2, hh, hqo, Bool.and_self, Bool.not_false]
      · rw [pairs_bad hs rfl he] at h; exact absurd h he
/-- What is read of a tag can be written, where no value has a quote in it. -/
theorem read_tag (l : List UInt8) (k : Nat) (hk : k ≤ l.length) (h : (openOut l k).2.2 = 0) (h34 : ∀ p ∈ (openOut l k).1.pairs, ∀ c ∈ p.2, c ≠ 34) :
    nameOk (openOut l k).1.name = true ∧ okPs [] (openOut l k).1.pairs = true := by
  unfold openOut at h h34 ⊢
  split
  · rename_i h0
    rw [if_pos h0] at h h34
    have hk1 : k < l.length := (List.getElem?_eq_some_iff.1 h0).1
    split
    · rename_i h1; rw [if_pos h1] at h; exact absurd h h1
    · rename_i h1
      rw [if_neg h1] at h h34
      have h1' : (nameOut l (k + 1)).2.2 = 0 := by omega
      have hn := nameOut_ok l (k + 1) (by omega) h1'
      split
      · rename_i h2; rw [if_pos h2] at h; exact absurd h h2
      · rename_i h2
        rw [if_neg h2] at h h34
        have h2' : (pairsOut l (nameOut l (k + 1)).2.1).2.2 = 0 := by omega
        have key : (∀ p ∈ (pairsOut l (nameOut l (k + 1)).2.1).1, ∀ c ∈ p.2, c ≠ 34) → nameOk (nameOut l (k + 1)).1 = true ∧ okPs [] (pairsOut l (nameOut l (k + 1)).2.1).1 = true := by
          intro hh
          obtain ⟨qs, hq, hqo⟩ := read_pairs l (l.length + 1) [] _ hn.2.1 (by omega) h2' hh
          refine ⟨read_name l (k + 1) (by omega) h1', ?_⟩
          unfold pairsOut
          rw [hq]
          exact hqo
        split
        · rename_i h3; rw [if_pos h3] at h34; exact key h34
        · rename_i h3
          rw [if_neg h3] at h h34
          split
          · rename_i h4; rw [if_pos h4] at h34; exact key h34
          · rename_i h4; rw [if_neg h4] at h; cases h
  · rename_i h0; rw [if_neg h0] at h; cases h
theorem enc_cases (r : Int) (h : 128 ≤ r) : (∃ a b : UInt8, Utf8.encode r = ⟨#[a, b]⟩ ∧ 128 ≤ b.toNat) ∨ (∃ a b c : UInt8, Utf8.encode r = ⟨#[a, b, c]⟩) ∨ ∃ a b c d : UInt8, Utf8.encode r = ⟨#[a, b, c, d]⟩ := by
  unfold Utf8.encode
  have hc : 128 ≤ (if Utf8.valid r = true then r.toNat else Utf8.runeError) := by
    split
    · omega
    · decide
  simp only
  generalize (if Utf8.valid r = true then r.toNat else Utf8.runeError) = c at *
  rw [if_neg (by omega)]
  split
  · refine Or.inl ⟨_, _, rfl, ?_⟩
    simp
    omega
  · split
    · exact Or.inr (Or.inl ⟨_, _, _, rfl⟩)
    · exact Or.inr (Or.inr ⟨_, _, _, _, rfl⟩)
set_option maxRecDepth 100000 in
set_option maxHeartbeats 1000000 in
theorem indexRune_wide (r : Int) (w : World) (h0 : 128 ≤ r) (h1 : r ≤ 1114111) :
    Calls Tryd.prog 119 #[.string ⟨#[60, 34]⟩, .int .i32 r] w fun e w' => e = .returned (.int .i64 (-1)) ∧ Below w.heap.size w w' := by
  have H1 := Lib.hid h1
  clear h1
  by_cases hE : r = 65533
  · subst hE
    clear H1 h0
    go_enter Tryd.func119, Tryd.ntmps119
    go_wp2_with fail
    go_loopg [5, 6] 2 (fun g _ _ wx => ∃ i : Nat, i + g = 2 ∧ wx = w.iter ⟨#[60, 34]⟩ i)
    case atStart => exact ⟨0, by omega, rfl⟩
    case round =>
      obtain ⟨i, hig, rfl⟩ := hrel
      cases gk with
      | zero =>
        obtain rfl : i = 2 := by omega
        have hnx := fun ty => run_next_end (P := Tryd.prog) w ⟨#[60, 34]⟩ 2 ty (by decide)
        go_wp2
        go_ret
        exact ⟨rfl, (Below.refl _ _).alloc (Nat.le_refl _) _⟩
      | succ g =>
        have hi : i = 0 ∨ i = 1 := by omega
        rcases hi with rfl | rfl
        · have hnx := fun ty => run_next_ascii (P := Tryd.prog) w ⟨#[60, 34]⟩ 0 ty (by decide) (by decide)
          rw [show ((⟨#[60, 34]⟩ : ByteArray)[0]'(by decide)).toNat = 60 by rfl] at hnx
          go_wp2
          go_roundg g
          case measure => omega
          case rel => exact ⟨1, by omega, rfl⟩
        · have hnx := fun ty => run_next_ascii (P := Tryd.prog) w ⟨#[60, 34]⟩ 1 ty (by decide) (by decide)
          rw [show ((⟨#[60, 34]⟩ : ByteArray)[1]'(by decide)).toNat = 34 by rfl] at hnx
          go_wp2
          go_roundg g
          case measure => omega
          case rel => exact ⟨2, by omega, rfl⟩
  · have hE' : (r == 65533) = false := by simp [hE]
    have HE := Lib.hid hE
    clear hE
    have cV := fun W => Tryd.utf8_ValidRune r W
    cases hv : Lib.validRune r
    · go_enter Tryd.func119, Tryd.ntmps119
      go_wp2_with fail
      refine (cV _).mono ?_
      rintro e w1 ⟨rfl, rfl⟩
      rw [hv]
      go_wp2
      go_ret
      exact ⟨rfl, Below.refl _ _⟩
    · go_enter Tryd.func119, Tryd.ntmps119
      go_wp2_with fail
      refine (cV _).mono ?_
      rintro e w1 ⟨rfl, rfl⟩
      rw [hv]
      have kv := fun W => run_convert_int_string (P := Tryd.prog) W 21 9 .i32 r (by kernel_rfl) (by kernel_rfl)
      have he := enc_cases r h0
      generalize Utf8.encode r = z at *
      clear h0 H1 HE hE' cV hv
      rcases he with ⟨a, b, rfl, hb⟩ | ⟨a, b, c, rfl⟩ | ⟨a, b, c, d, rfl⟩
      · have h34 : ¬ (34 : Int) = (b.toNat : Int) := by omega
        have h34' : ((34 : Int) == (b.toNat : Int)) = false := by simp; omega
        have hz : (⟨#[a, b]⟩ : ByteArray).size = 2 := rfl
        go_wp2_with fail
        go_step3
        go_wp2_with fail
        refine wp_loop_rounds 1 ?_
        rw [rounds_succ]
        go_wp2_with fail
        go_step3
        have i1 : ((⟨#[60, 34]⟩ : ByteArray)[1]'(by decide)).toNat = 34 := rfl
        have i2 : ((⟨#[a, b]⟩ : ByteArray)[1]'(by show 1 < 2; omega)).toNat = b.toNat := rfl
        go_wp2_with fail
        go_quiet (fail)
        have hB : Below w1.heap.size w1 (w1.drewN nq) := below_drewN' (Below.refl _ _)
        generalize w1.drewN nq = wq at *
        go_wp2_with fail
        go_quiet ((go_at_call 38; exact Calls.quiet_of_same (Tryd.strings_IndexByte _ _ _)))
        have hB2 : Below w1.heap.size w1 (wq.drewN nq) := below_drewN' hB
        generalize wq.drewN nq = wr at *
        go_wp2_with fail
        simp only [Exit.inBlock, Exit.then, Exit.noGoto_ret]
        go_ret
        exact ⟨rfl, hB2⟩
      · go_wp2_with fail
        go_step3
        go_wp2_with fail
        refine wp_loop_rounds 1 ?_
        rw [rounds_succ]
        go_wp2_with fail
        rw [Exit.noGoto_ret]
        go_ret
        exact ⟨rfl, Below.refl _ _⟩
      · go_wp2_with fail
        go_step3
        go_wp2_with fail
        refine wp_loop_rounds 1 ?_
        rw [rounds_succ]
        go_wp2_with fail
        rw [Exit.noGoto_ret]
        go_ret
        exact ⟨rfl, Below.refl _ _⟩
theorem get_plus (s : ByteArray) (p : Nat) (h : p < s.size) : s.get! p = s[p]'h := by
  simp [ByteArray.get!, getElem!_pos, h]
  rfl
/-- The bytes that a character takes which begins with a byte from 128 up are all so. -/
theorem decode_span (s : ByteArray) (pos : Nat) (h : pos < s.size) (ha : 128 ≤ (s[pos]'h).toNat) :
    pos + (Utf8.decode s pos).2 ≤ s.size ∧ ∀ j, pos ≤ j → j < pos + (Utf8.decode s pos).2 → ∃ hj : j < s.size, 128 ≤ (s[j]'hj).toNat := by
  have h0 : (s.get! (pos + 0)).toNat = (s[pos]'h).toNat := by rw [Nat.add_zero, get_plus s pos h]
  have hc : ∀ k, (pos + k < s.size && (s.get! (pos + k)).toNat / 64 == 2) = true → ∃ hj : pos + k < s.size, 128 ≤ (s[pos + k]'hj).toNat := by
    intro k hk
    simp only [Bool.and_eq_true, decide_eq_true_eq, beq_iff_eq] at hk
    refine ⟨hk.1, ?_⟩
    have := hk.2
    rw [get_plus s _ hk.1] at this
    omega
  have one : pos + 1 ≤ s.size ∧ ∀ j, pos ≤ j → j < pos + 1 → ∃ hj : j < s.size, 128 ≤ (s[j]'hj).toNat := by
    refine ⟨h, fun j h1 h2 => ?_⟩
    obtain rfl : j = pos := by omega
    exact ⟨h, ha⟩
  unfold Utf8.decode
  simp only
  rw [if_neg (by rw [h0]; omega)]
  split
  · rename_i h1
    rw [Bool.and_eq_true] at h1
    obtain ⟨a1, b1⟩ := hc 1 h1.2
    split
    · refine ⟨by simp only; omega, fun j h2 h3 => ?_⟩
      simp only at h3
      rcases (by omega : j = pos ∨ j = pos + 1) with rfl | rfl
      · exact ⟨h, ha⟩
      · exact ⟨a1, b1⟩
    · exact one
  · split
    · rename_i h1
      simp only [Bool.and_eq_true] at h1
      obtain ⟨a1, b1⟩ := hc 1 (by simpa using h1.1.2)
      obtain ⟨a2, b2⟩ := hc 2 (by simpa using h1.2)
      split
      · refine ⟨by simp only; omega, fun j h2 h3 => ?_⟩
        simp only at h3
        rcases (by omega : j = pos ∨ j = pos + 1 ∨ j = pos + 2) with rfl | rfl | rfl
        · exact ⟨h, ha⟩
        · exact ⟨a1, b1⟩
        · exact ⟨a2, b2⟩
      · exact one
    · split
      · rename_i h1
        simp only [Bool.and_eq_true] at h1
        obtain ⟨a1, b1⟩ := hc 1 (by simpa using h1.1.1.2)
        obtain ⟨a2, b2⟩ := hc 2 (by simpa using h1.1.2)
        obtain ⟨a3, b3⟩ := hc 3 (by simpa using h1.2)
        split
        · refine ⟨by simp only; omega, fun j h2 h3 => ?_⟩
          simp only at h3
          rcases (by omega : j = pos ∨ j = pos + 1 ∨ j = pos + 2 ∨ j = pos + 3) with rfl | rfl | rfl | rfl
          · exact ⟨h, ha⟩
          · exact ⟨a1, b1⟩
          · exact ⟨a2, b2⟩
          · exact ⟨a3, b3⟩
        · exact one
      · exact one
theorem valid_le (c : Nat) (h : Utf8.valid (c : Int) = true) : c ≤ 1114111 := by
  unfold Utf8.valid at h
  simp only [Bool.or_eq_true, Bool.and_eq_true, decide_eq_true_eq] at h
  omega
theorem decode_uni (s : ByteArray) (pos : Nat) : (Utf8.decode s pos).1 ≤ 1114111 := by
  unfold Utf8.decode
  simp only
  split
  · simp only; omega
  · split
    · split
      · simp only; omega
      · simp [Utf8.runeError]
    · split
      · split
        · rename_i h
          simp only [Bool.and_eq_true] at h
          exact valid_le _ h.2
        · simp [Utf8.runeError]
      · split
        · split
          · rename_i h
            simp only [Bool.and_eq_true] at h
            exact valid_le _ h.2
          · simp [Utf8.runeError]
        · simp [Utf8.runeError]
/-- '<' and '"'. -/
def quL : List UInt8 := [60, 34]
theorem qu_no (b : UInt8) (h : 128 ≤ b.toNat) : quL.contains b = false := by
  have h1 : b ≠ 60 := fun e => by subst e; simp at h
  have h2 : b ≠ 34 := fun e => by subst e; simp at h
  simp [quL, h1, h2]
theorem noAny_more {s : List UInt8} {i m : Nat} (h : Lib.NoAny s quL i) (hm : ∀ j b, i ≤ j → j < m → s[j]? = some b → 128 ≤ b.toNat) : Lib.NoAny s quL m := fun j b hj hb => by
  by_cases e : j < i
  · exact h j b e hb
  · exact qu_no b (hm j b (by omega) hj hb)
theorem containsAny_all (s : List UInt8) : Lib.containsAny s quL = (s.any fun c => quL.contains c) := by
  rw [Bool.eq_iff_iff]
  unfold Lib.containsAny
  rw [decide_eq_true_eq, List.any_eq_true]
  constructor
  · intro h
    false_or_by_contra
    rename_i hn
    have : Lib.NoAny s quL s.length := fun j b _ hb => by
      cases hc : quL.contains b with
      | false => rfl
      | true => exact absurd ⟨b, List.mem_of_getElem? hb, hc⟩ hn
    rw [Lib.indexAny_none this] at h
    omega
  · rintro ⟨c, hc, hq⟩
    false_or_by_contra
    rename_i hn
    have key : ∀ s : List UInt8, c ∈ s → 0 ≤ Lib.indexAny s quL := by
      intro s
      induction s with
      | nil => intro h; cases h
      | cons b l ih =>
        intro h
        unfold Lib.indexAny
        split
        · omega
        · rename_i hb
          have hcl : c ∈ l := by
            cases h with
            | head => exact absurd hq hb
            | tail _ h => exact h
          have := ih hcl
          split
          · rename_i h2; have := eq_of_beq h2; omega
          · omega
    exact hn (key s hc)
theorem lt_of_it {W : World} {b : Nat} {o : Obj} (h : W.heap[b]? = some o) : b < W.heap.size := (Array.getElem?_eq_some_iff.1 h).1
/-- A string's iterator in block b, at whatever world. -/
def itW (W : World) (b : Nat) (s : ByteArray) (p : Nat) : World := { W with heap := W.heap.setIfInBounds b (.stringIter s p) }
theorem itW_at {W : World} {b p q : Nat} {s : ByteArray} (h : W.heap[b]? = some (.stringIter s q)) : (itW W b s p).heap[b]? = some (.stringIter s p) := by
  have hb : b < W.heap.size := (Array.getElem?_eq_some_iff.1 h).1
  simp [itW, hb]
theorem itW_below {W : World} {b p : Nat} {s : ByteArray} : Below b W (itW W b s p) := ⟨rfl, rfl, rfl, by simp [itW], fun k hk => by simp [itW, show ¬ b = k by omega]⟩
theorem run_next_at (W : World) (b : Nat) (s : ByteArray) (pos : Nat) (ty : TypeId) (hb : W.heap[b]? = some (.stringIter s pos)) (h : pos < s.size) :
    (Instr.next (.pointer (some ⟨b, 0, none⟩)) true ty).run Tryd.prog W = .ok (.tuple #[.bool true, .int .i64 pos, .int .i32 (Utf8.decode s pos).1]) (itW W b s (pos + (Utf8.decode s pos).2)) := by
  simp only [Instr.next, getObj, setObj, Sem.run_bind, Sem.run, hb, Result.andThen, h, if_true]
  simp [goInt, itW]
theorem run_next_end_at (W : World) (b : Nat) (s : ByteArray) (pos : Nat) (ty : TypeId) (hb : W.heap[b]? = some (.stringIter s pos)) (h : ¬ pos < s.size) :
    (Instr.next (.pointer (some ⟨b, 0, none⟩)) true ty).run Tryd.prog W = .ok (.tuple #[.bool false]) W := by
  simp [Instr.next, getObj, Sem.run, hb, h]
set_option maxRecDepth 100000 in
set_option maxHeartbeats 4000000 in
theorem indexAny_q (s : List UInt8) (w : World) (hm : s.length ≤ 1000000) :
    Calls Tryd.prog 105 #[.string ⟨s.toArray⟩, .string ⟨#[60, 34]⟩] w fun e w' => e = .returned (.int .i64 (Lib.indexAny s quL)) ∧ Below w.heap.size w w' := by
  have hss : (⟨s.toArray⟩ : ByteArray).size = s.length := by simp [ByteArray.size]
  by_cases h8 : s.length ≤ 8
  · have h8z : decide ((8 : Int) < (s.length : Int)) = false := decide_eq_false (by omega)
    have HSS := Lib.hid hss
    have HG : Hid (∀ (i : Nat) (hi : i < s.length), (⟨s.toArray⟩ : ByteArray)[i]'(by rw [HSS.out]; exact hi) = s[i]) := Lib.hid fun i hi => rfl
    have CW : Hid (∀ (r : Int) W, 128 ≤ r → r ≤ 1114111 → Calls Tryd.prog 119 #[.string ⟨#[60, 34]⟩, .int .i32 r] W fun e w' => e = .returned (.int .i64 (-1)) ∧ Below W.heap.size W w') := Lib.hid fun r W h0 h1 => indexRune_wide r W h0 h1
    have CA : Hid (∀ (r : Int) W, 0 ≤ r → r < 128 → Calls Tryd.prog 119 #[.string ⟨#[60, 34]⟩, .int .i32 r] W fun e w' => e = .returned (.int .i64 (Lib.indexByte [60, 34] r.toNat.toUInt8)) ∧ w' = W) := Lib.hid fun r W h0 h1 => Tryd.strings_IndexRune_ascii ⟨#[60, 34]⟩ r W h0 h1
    have CS := Lib.hid fun (W : World) => Tryd.strings_shouldUseASCIISet (s.length : Int) W
    clear hss
    go_enter Tryd.func105, Tryd.ntmps105
    go_wp2_with fail
    refine (CS.out _).mono ?_
    rintro e w1 ⟨rfl, hw⟩
    rw [hw, h8z]
    clear hw w1
    go_wp2
    go_loopg [9, 10] s.length (fun g _ _ wx => ∃ i : Nat, i ≤ s.length ∧ Hid (g = s.length - i) ∧ wx.heap[w.heap.size]? = some (.stringIter ⟨s.toArray⟩ i) ∧ Hid (Below w.heap.size w wx) ∧ Hid (Lib.NoAny s quL i))
    case atStart => exact ⟨0, Nat.zero_le _, Lib.hid rfl, World.iter_heap _ _ _, Lib.hid ((Below.refl _ _).alloc (Nat.le_refl _) _), Lib.hid (Lib.NoAny.zero _ _)⟩
    case round =>
      obtain ⟨i, hi, hg, hit, HB, HN⟩ := hrel
      by_cases hil : i < s.length
      · have hnx := fun ty => run_next_at wr w.heap.size ⟨s.toArray⟩ i ty hit (by rw [HSS.out]; exact hil)
        have hc : (⟨s.toArray⟩ : ByteArray)[i]'(by rw [HSS.out]; exact hil) = s[i] := HG.out i hil
        have hx : s[i]? = some s[i] := List.getElem?_eq_getElem hil
        have hsp := decode_span ⟨s.toArray⟩ i (by rw [HSS.out]; exact hil)
        have hdh := decode_high ⟨s.toArray⟩ i (by rw [HSS.out]; exact hil)
        have hda := decode_ascii ⟨s.toArray⟩ i (by rw [HSS.out]; exact hil)
        have hdl := decode_uni ⟨s.toArray⟩ i
        rw [hc] at hsp hdh hda
        generalize s[i] = c at *
        by_cases hc128 : c.toNat < 128
        · rw [hda hc128] at hnx
          have CA1 := Lib.hid fun W => CA.out (c.toNat : Int) W (by omega) (by omega)
          have hct : ((c.toNat : Int)).toNat.toUInt8 = c := by simp
          rw [hct] at CA1
          have HX := Lib.hid hx
          have hat := itW_at (p := i + 1) hit
          have HB1 := Lib.hid (HB.out.trans (itW_below (W := wr) (b := w.heap.size) (p := i + 1) (s := ⟨s.toArray⟩)))
          clear hsp hdh hda hx hit hdl hc hct
          simp only at hnx
          generalize itW wr w.heap.size ⟨s.toArray⟩ (i + 1) = wi at *
          cases hq : quL.contains c with
          | true =>
            have HI := Lib.hid (Lib.indexAny_hit HN.out HX.out hq)
            have hge : (0 : Int) ≤ Lib.indexByte [60, 34] c := by
              have h1 : c = 60 ∨ c = 34 := by simpa [quL] using hq
              rcases h1 with rfl | rfl <;> decide
            go_wp2_with fail
            refine (CA1.out _).mono ?_
            rintro e w2 ⟨rfl, rfl⟩
            go_wp2
            go_ret
            rw [HI.out]
            exact ⟨rfl, HB1.out⟩
          | false =>
            have HN2 := Lib.hid (HN.out.succ HX.out hq)
            have hlt : ¬ ((0 : Int) ≤ Lib.indexByte [60, 34] c) := by
              have := Lib.contains_iff_indexByte quL c
              rw [hq] at this
              exact of_decide_eq_false this.symm
            go_wp2_with fail
            refine (CA1.out _).mono ?_
            rintro e w2 ⟨rfl, rfl⟩
            go_wp2
            go_roundg (s.length - (i + 1))
            case measure => have := hg.out; omega
            case rel => exact ⟨i + 1, by omega, Lib.hid rfl, hat, HB1, HN2⟩
        · have hc1 : 128 ≤ c.toNat := by omega
          have hs1 := hsp hc1
          have hd1 := hdh hc1
          generalize Utf8.decode ⟨s.toArray⟩ i = dc at *
          obtain ⟨r, m⟩ := dc
          simp only at hs1 hd1 hnx hdl
          have hr : r ≤ 1114111 := hdl
          have CW1 := Lib.hid fun W => CW.out (r : Int) W (by omega) (by omega)
          have HN2 : Hid (Lib.NoAny s quL (i + m)) := Lib.hid (noAny_more HN.out fun j b h1 h2 h3 => by
            obtain ⟨hj, hb⟩ := hs1.2 j h1 h2
            have hj' : j < s.length := by rw [← HSS.out]; exact hj
            rw [HG.out j hj'] at hb
            rw [List.getElem?_eq_getElem hj'] at h3
            cases h3
            exact hb)
          have him : i + m ≤ s.length := by rw [← HSS.out]; exact hs1.1
          have hat := itW_at (p := i + m) hit
          have HB1 := Lib.hid (HB.out.trans (itW_below (W := wr) (b := w.heap.size) (p := i + m) (s := ⟨s.toArray⟩)))
          have hm1 := hd1.2
          clear hsp hdh hda hx hit hdl hc hs1 hd1
          generalize itW wr w.heap.size ⟨s.toArray⟩ (i + m) = wi at *
          go_wp2_with fail
          refine (CW1.out _).mono ?_
          rintro e w2 ⟨rfl, hb2⟩
          have hat2 : w2.heap[w.heap.size]? = some (.stringIter ⟨s.toArray⟩ (i + m)) := (hb2.block _ (lt_of_it hat)).trans hat
          have HB2 := Lib.hid (HB1.out.trans (hb2.mono HB1.out.size))
          clear hat hb2
          go_wp2
          go_roundg (s.length - (i + m))
          case measure => have := hg.out; omega
          case rel => exact ⟨i + m, him, Lib.hid rfl, hat2, HB2, HN2⟩
      · have hnx := fun ty => run_next_end_at wr w.heap.size ⟨s.toArray⟩ i ty hit (by rw [HSS.out]; exact hil)
        have HI : Hid (Lib.indexAny s quL = -1) := Lib.hid (Lib.indexAny_none (by have := HN.out; rwa [show i = s.length by omega] at this))
        go_wp2
        go_ret
        rw [HI.out]
        exact ⟨rfl, HB.out⟩
  · have h2 : 2 ≤ (⟨#[60, 34]⟩ : ByteArray).size := by decide
    refine (Tryd.strings_IndexAny_long (zero_of_info (show (Tryd.prog.info? _).map (fun i => (i.zero, i.size)) = some (some (.agg (Array.replicate 256 (.bool false))), 256) by kernel_rfl)).1 ⟨s.toArray⟩ ⟨#[60, 34]⟩ w h2 (by rw [hss]; omega) (by rw [hss]; omega) (by decide) ?_).mono ?_
    · intro j b hb
      match j with
      | 0 => simp at hb; subst hb; decide
      | 1 => simp at hb; subst hb; decide
      | j + 2 => simp at hb
    · rintro e w' ⟨rfl, rfl⟩
      exact ⟨rfl, ((Below.refl _ _).alloc (Nat.le_refl _) _).alloc (by simp) _⟩
set_option maxRecDepth 100000 in
set_option maxHeartbeats 4000000 in
theorem containsAny_q (s : List UInt8) (w : World) (hm : s.length ≤ 1000000) :
    Calls Tryd.prog 80 #[.string ⟨s.toArray⟩, .string ⟨#[60, 34]⟩] w fun e w' => e = .returned (.bool (Lib.containsAny s quL)) ∧ Below w.heap.size w w' := by
  have C1 := Lib.hid (indexAny_q s w hm)
  have HC : Hid (Lib.containsAny s quL = decide (0 ≤ Lib.indexAny s quL)) := Lib.hid rfl
  rw [HC.out]
  clear hm
  generalize Lib.indexAny s quL = k at *
  go_enter Tryd.func80, Tryd.ntmps80
  go_wp2_with fail
  refine C1.out.mono ?_
  rintro e w1 ⟨rfl, hb⟩
  have B1 := Lib.hid hb
  clear hb
  go_wp2
  go_ret
  exact ⟨rfl, B1.out⟩
def nameB (s : List UInt8) : Bool := wholeB isStart isMore s
/-- Does a row of attributes hold what can be written? -/
def formP (ps : List PairL) : Bool := ps.all fun p => nameB p.1 && valOk p.2
def longP (ps : List PairL) : Bool := ps.any fun p => decide (1024 < p.1.length)
/-- How many names there are, behind others. -/
def countR : List PairL → List PairL → Nat
  | _, [] => 0
  | acc, p :: t => (if hasN acc p.1 then 0 else 1) + countR (acc ++ [p]) t
def dupR : List PairL → List PairL → Bool
  | _, [] => false
  | acc, p :: t => hasN acc p.1 || dupR (acc ++ [p]) t
theorem countR_snoc : ∀ (ps acc : List PairL) (p : PairL), countR acc (ps ++ [p]) = countR acc ps + if hasN (acc ++ ps) p.1 then 0 else 1
  | [], acc, p => by simp [countR]
  | q :: t, acc, p => by
    have := countR_snoc t (acc ++ [q]) p
    simp only [List.cons_append, countR, this, List.append_assoc, List.nil_append]
    omega
theorem dupR_snoc : ∀ (ps acc : List PairL) (p : PairL), dupR acc (ps ++ [p]) = (dupR acc ps || hasN (acc ++ ps) p.1)
  | [], acc, p => by simp [dupR]
  | q :: t, acc, p => by
    have := dupR_snoc t (acc ++ [q]) p
    simp only [List.cons_append, dupR, this, List.append_assoc, List.nil_append, Bool.or_assoc]
theorem countR_le : ∀ (ps acc : List PairL), countR acc ps ≤ ps.length
  | [], acc => Nat.le_refl _
  | p :: t, acc => by
    have := countR_le t (acc ++ [p])
    simp only [countR, List.length_cons]
    split <;> omega
theorem count_dup' : ∀ (ps acc : List PairL), dupR acc ps = true ↔ countR acc ps < ps.length
  | [], acc => by simp [dupR, countR]
  | p :: t, acc => by
    have h := count_dup' t (acc ++ [p])
    have hl := countR_le t (acc ++ [p])
    have e : countR acc (p :: t) = (if hasN acc p.1 = true then 0 else 1) + countR (acc ++ [p]) t := rfl
    have e2 : dupR acc (p :: t) = (hasN acc p.1 || dupR (acc ++ [p]) t) := rfl
    rw [e, e2, List.length_cons, Bool.or_eq_true, h]
    by_cases hh : hasN acc p.1 = true
    · rw [if_pos hh]; constructor
      · intro _; omega
      · intro _; exact Or.inl hh
    · rw [if_neg hh]; constructor
      · rintro (h1 | h1)
        · exact absurd h1 hh
        · omega
      · intro h1; exact Or.inr (by omega)
theorem count_dup (ps acc : List PairL) : dupR acc ps = decide (countR acc ps < ps.length) := by
  rw [Bool.eq_iff_iff, decide_eq_true_eq]; exact count_dup' ps acc
/-- The error of what is to be written. -/
def checkT (s : List UInt8) (ps : List PairL) : Nat := if (nameB s && formP ps) = true then (if (decide (1024 < s.length) || longP ps) = true then 11 else if dupR [] ps = true then 12 else 0) else 7
theorem okPs_eq : ∀ (ps acc : List PairL), okPs acc ps = (formP ps && !longP ps && !dupR acc ps)
  | [], acc => rfl
  | p :: t, acc => by
    have h := okPs_eq t (acc ++ [p])
    simp only [okPs, h, formP, longP, dupR, List.all_cons, List.any_cons, nameOk, nameB]
    have e : decide (p.1.length ≤ 1024) = !decide (1024 < p.1.length) := by simp [← Nat.not_lt]
    rw [e]
    cases wholeB isStart isMore p.1 <;> cases valOk p.2 <;> cases decide (1024 < p.1.length) <;> cases hasN acc p.1 <;> simp
theorem checkT_ok {s : List UInt8} {ps : List PairL} (h : checkT s ps = 0) : nameOk s = true ∧ okPs [] ps = true := by
  unfold checkT at h
  split at h
  · rename_i h1
    split at h
    · cases h
    · rename_i h2
      split at h
      · cases h
      · rename_i h3
        rw [okPs_eq]
        simp only [Bool.and_eq_true, Bool.or_eq_true, decide_eq_true_eq, not_or, Bool.not_eq_true] at h1 h2 h3
        refine ⟨by unfold nameOk; simp only [Bool.and_eq_true, decide_eq_true_eq]; exact ⟨h1.1, by omega⟩, ?_⟩
        rw [h1.2, h2.2, h3]
        rfl
  · cases h
theorem checkT_of {s : List UInt8} {ps : List PairL} (h1 : nameOk s = true) (h2 : okPs [] ps = true) : checkT s ps = 0 := by
  rw [okPs_eq] at h2
  unfold nameOk at h1
  simp only [Bool.and_eq_true, decide_eq_true_eq, Bool.not_eq_true'] at h1 h2
  unfold checkT
  rw [if_pos (by rw [show nameB s = true from h1.1, h2.1.1]; rfl), if_neg (by rw [h2.1.2]; simp; omega), if_neg (by rw [h2.2]; simp)]
theorem valOk_eq (v : List UInt8) : valOk v = (decide ((refsOut v).2 = 0) && !Lib.containsAny v quL) := by
  rw [containsAny_all]
  unfold valOk
  rw [Bool.and_assoc]
  congr 1
  induction v with
  | nil => rfl
  | cons c t ih =>
    simp only [List.all_cons, List.any_cons, Bool.not_or, ← ih]
    have : quL.contains c = (decide (c = 60) || decide (c = 34)) := by
      simp only [quL, List.contains_cons, List.contains_nil, Bool.or_false]
      rfl
    rw [this, Bool.not_or]
    rw [show decide (c ≠ 60) = !decide (c = 60) by simp, show decide (c ≠ 34) = !decide (c = 34) by simp]
    cases decide (c = 60) <;> cases decide (c = 34) <;> simp
/-- The names so far, in a map that counts them. -/
def Cnt (w : World) (b : Nat) (acc : List PairL) : Prop := ∃ D : DataW Unit, w.ownsMap Tryd.prog 9 (Go.plainElem Tryd.prog 3) b acc.length D ∧ Go.Maps.size D = countR [] acc ∧ (∀ s : List UInt8, Go.Maps.has D (.string s) = hasN acc s) ∧
  ∀ s : List UInt8, ∃ c : Nat, c ≤ acc.length ∧ D.atKey (.string s) (.lit (.int .i64 0)) = .lit (.int .i64 (c : Int))
theorem Cnt.start (w : World) : Cnt (w.alloc (.map #[] 0)) w.heap.size [] := ⟨.map [], World.ownsMap_made _ _ _ _, rfl, fun s => rfl, fun s => ⟨0, Nat.le_refl _, rfl⟩⟩
theorem cnt_snoc {D : DataW Unit} {acc : List PairL} {p : PairL} {c : Nat} (ht : Go.Maps.Tidy D) (hs : Go.Maps.size D = countR [] acc) (hh : ∀ s : List UInt8, Go.Maps.has D (.string s) = hasN acc s)
    (hc : ∀ s : List UInt8, ∃ c : Nat, c ≤ acc.length ∧ D.atKey (.string s) (.lit (.int .i64 0)) = .lit (.int .i64 (c : Int))) (hcl : c ≤ acc.length) :
    Go.Maps.size (D.put (.string p.1) (.lit (.int .i64 ((c : Int) + 1)))) = countR [] (acc ++ [p]) ∧ (∀ s : List UInt8, Go.Maps.has (D.put (.string p.1) (.lit (.int .i64 ((c : Int) + 1)))) (.string s) = hasN (acc ++ [p]) s) ∧
    ∀ s : List UInt8, ∃ c' : Nat, c' ≤ (acc ++ [p]).length ∧ (D.put (.string p.1) (.lit (.int .i64 ((c : Int) + 1)))).atKey (.string s) (.lit (.int .i64 0)) = .lit (.int .i64 (c' : Int)) := by
  refine ⟨?_, fun s => ?_, fun s => ?_⟩
  · rw [Go.Maps.size_put ht, countR_snoc, hh, hs, List.nil_append]
    split <;> rfl
  · rw [hasN_snoc]
    by_cases e : p.1 = s
    · subst e
      rw [Go.Maps.has_put_same ht.isMap (by simp [WideAt.IsKeyLit])]
      simp
    · rw [Go.Maps.has_put_other (by simpa using fun h => e h.symm), hh]
      simp [e]
  · by_cases e : p.1 = s
    · subst e
      exact ⟨c + 1, by simp; omega, by rw [Go.Maps.atKey_put_same ht.isMap (by simp [WideAt.IsKeyLit])]; simp⟩
    · obtain ⟨c', h1, h2⟩ := hc s
      exact ⟨c', by simp; omega, by rw [Go.Maps.atKey_put_other (by simpa using fun h => e h.symm), h2]⟩
set_option maxRecDepth 100000 in
set_option maxHeartbeats 4000000 in
theorem plainT_c (s : List UInt8) (w : World) (hW : W10 w) (hm : s.length ≤ 40000) :
    Calls Tryd.prog 56 #[.string ⟨s.toArray⟩] w fun e w' => e = .returned (.bool (valOk s)) ∧ Below w.heap.size w w' := by
  have C1 := Lib.hid (refs_c s w hW.tabs hW.forms hm)
  have C2 := Lib.hid fun W => containsAny_q s W (by omega)
  have HV := Lib.hid (valOk_eq s)
  rw [HV.out]
  clear hm hW
  generalize refsOut s = o at *
  generalize Lib.containsAny s quL = c at *
  obtain ⟨i, e⟩ := o
  by_cases he : e = 0
  · subst he
    go_enter Tryd.func56, Tryd.ntmps56
    go_wp2_with fail
    refine (C1.out).mono ?_
    rintro e w1 ⟨rfl, hb⟩
    have B1 := Lib.hid hb
    clear hb
    go_wp2_with fail
    refine (C2.out _).mono ?_
    rintro e w2 ⟨rfl, hb⟩
    have B2 := Lib.hid (B1.out.trans (hb.mono B1.out.size))
    clear hb
    go_wp2
    go_ret
    exact ⟨by simp, B2.out⟩
  · have hei : ((e : Int) == 0) = false := by simp; omega
    have HE : Hid (decide (e = 0) = false) := Lib.hid (by simpa using he)
    clear he
    go_enter Tryd.func56, Tryd.ntmps56
    go_wp2_with fail
    refine (C1.out).mono ?_
    rintro e w1 ⟨rfl, hb⟩
    have B1 := Lib.hid hb
    clear hb
    go_wp2
    go_ret
    simp only [HE.out]
    exact ⟨by simp, B1.out⟩
theorem formP_snoc (ps : List PairL) (p : PairL) : formP (ps ++ [p]) = (formP ps && (nameB p.1 && valOk p.2)) := by simp [formP]
theorem longP_snoc (ps : List PairL) (p : PairL) : longP (ps ++ [p]) = (longP ps || decide (1024 < p.1.length)) := by simp [longP]
/-- While a tag is looked at: below w all as it was; the tag at w's end; the map of names behind it. -/
def CkJ (w wr : World) (cs : Array Value) (acc : List PairL) : Prop := Below w.heap.size w wr ∧ wr.heap[w.heap.size]? = some (.cells cs 26) ∧ Cnt wr (w.heap.size + 1) acc
theorem CkJ.lt {w wr : World} {cs : Array Value} {acc : List PairL} (h : CkJ w wr cs acc) : w.heap.size + 1 < wr.heap.size := by
  obtain ⟨_, _, D, h1, _⟩ := h
  exact ownsMap_at h1
theorem CkJ.kept {w wr w' : World} {cs : Array Value} {acc : List PairL} (h : CkJ w wr cs acc) (hb : Below wr.heap.size wr w') : CkJ w w' cs acc := by
  have hlt := h.lt
  obtain ⟨h1, h2, D, h3, h4⟩ := h
  exact ⟨h1.trans (hb.mono h1.size), by rw [hb.block _ (by omega)]; exact h2, D, ownsMap_keep h3 (hb.block _ hlt), h4⟩
theorem CkJ.start (w : World) (cs : Array Value) : CkJ w ((w.alloc (.cells cs 26)).alloc (.map #[] 0)) cs [] := by
  have hb := (Below.refl _ w).alloc (Nat.le_refl _) (.cells cs 26)
  have hq := hp_new w (.cells cs 26)
  refine ⟨hb.alloc hb.size _, by rw [Below.heap_alloc _ _ _ (by simp)]; exact hq, ?_⟩
  have := Cnt.start (w.alloc (.cells cs 26))
  rwa [show (w.alloc (.cells cs 26)).heap.size = w.heap.size + 1 by simp] at this
theorem CkJ.counted {w wr w' : World} {cs : Array Value} {acc acc' : List PairL} (h : CkJ w wr cs acc) (hb : wr.grownBy w' (some (w.heap.size + 1))) (hc : Cnt w' (w.heap.size + 1) acc') : CkJ w w' cs acc' :=
  ⟨h.1.grown hb h.1.size (fun j hj => by cases hj; omega), by rw [hb.block _ (by have := h.lt; omega) (by simp)]; exact h.2.1, hc⟩
theorem wf_small (c : Nat) (h : c ≤ 1000000) : (Lit.int .i64 ((c : Int) + 1)).wf = true := by
  simp only [Lit.wf, IntKind.min, IntKind.max, Bool.and_eq_true]
  constructor <;> (simp [IntKind.bits, IntKind.signed]; omega)
set_option maxRecDepth 100000 in
set_option maxHeartbeats 8000000 in
theorem checkTag_c (s : List UInt8) (A : Option Addr) (n cap : Nat) (ps : List PairL) (em : Bool) (w : World) (h : PRd w w.heap.size A n cap ps) (hW : W10 w) (hs : s.length ≤ 40000) (hn : n ≤ 40000) (hp : ∀ p ∈ ps, p.1.length ≤ 40000 ∧ p.2.length ≤ 40000) :
    Calls Tryd.prog 29 #[.agg #[.string ⟨s.toArray⟩, .slice A n cap, .bool em]] w fun e w' => e = .returned (.int .i64 (checkT s ps)) ∧ Below w.heap.size w w' := by
  have CN : Hid (∀ (q : List UInt8) W, q.length ≤ 40000 → Below w.heap.size w W → Calls Tryd.prog 55 #[.string ⟨q.toArray⟩] W fun e w' => e = .returned (.bool (nameB q)) ∧ Below W.heap.size W w') := Lib.hid fun q W h1 hb => isName_c q W (hW.below hb).forms (hW.below hb).tabs.n (by omega)
  have CP : Hid (∀ (q : List UInt8) W, q.length ≤ 40000 → Below w.heap.size w W → Calls Tryd.prog 56 #[.string ⟨q.toArray⟩] W fun e w' => e = .returned (.bool (valOk q)) ∧ Below W.heap.size W w') := Lib.hid fun q W h1 hb => plainT_c q W (hW.below hb) h1
  have HP := Lib.hid h
  have HS := Lib.hid hs
  have HQ := Lib.hid hp
  have HLN : Hid (ps.length = n) := Lib.hid h.len
  have HD := Lib.hid (count_dup ps [])
  have hs1 : (s.length : Int) ≤ 40000 := by omega
  have hst := CkJ.start w #[.string ⟨s.toArray⟩, .slice A n cap, .bool em]
  have HCk : Hid (checkT s ps = if (nameB s && formP ps) = true then (if (decide (1024 < s.length) || longP ps) = true then 11 else if dupR [] ps = true then 12 else 0) else 7) := Lib.hid rfl
  rw [HCk.out]
  clear HCk h hW hs hp
  have HJ0 := Lib.hid hst
  have z0 := cell_of 0 hst.2.1
  clear hst
  have hmm := @run_makeMap Tryd.prog
  go_enter Tryd.func29, Tryd.ntmps29
  go_wp2_with fail
  refine (CN.out s _ HS.out HJ0.out.1).mono ?_
  rintro e w1 ⟨rfl, hb⟩
  have HJ1 := Lib.hid (HJ0.out.kept hb)
  have z1 := cell_of 1 HJ1.out.2.1
  clear hb z0
  go_wp2
  go_loopg [4, 5, 19] (n) (fun g lg fm i wr => ∃ t : Nat, t ≤ n ∧ Hid (g + t = n) ∧ i = .int .i64 (t : Int) ∧ lg = .bool (decide (1024 < s.length) || longP (ps.take t)) ∧ fm = .bool (nameB s && formP (ps.take t)) ∧ Hid (CkJ w wr #[.string ⟨s.toArray⟩, .slice A n cap, .bool em] (ps.take t)))
  case atStart => exact ⟨0, Nat.zero_le _, Lib.hid (by omega), rfl, by simp [longP]; try omega, by simp [formP], HJ1⟩
  case round =>
    obtain ⟨t, ht, hg, rfl, rfl, rfl, HJ⟩ := hrel
    clear z1
    have ht0 : (0 : Int) ≤ (t : Int) := by omega
    have htb : (t : Int) ≤ 40000 := by omega
    by_cases htn : t < n
    · have htni : (t : Int) < (n : Int) := by omega
      obtain ⟨b, o, p, rfl, hb, hp, hc0, hc1⟩ := (HP.out.below HJ.out.1).cell htn
      have htk : ps.take (t + 1) = ps.take t ++ [p] := by rw [List.take_add_one, hp]; rfl
      have hFS := Lib.hid (formP_snoc (ps.take t) p)
      have hLS := Lib.hid (longP_snoc (ps.take t) p)
      rw [← htk] at hFS hLS
      have HTK := Lib.hid htk
      have hlen : (ps.take t).length ≤ 40000 := by rw [List.length_take]; omega
      have HLEN := Lib.hid hlen
      obtain ⟨hq1, hq2⟩ := HQ.out p (List.mem_of_getElem? hp)
      have CN1 := Lib.hid fun W hb => CN.out p.1 W hq1 hb
      have CP1 := Lib.hid fun W hb => CP.out p.2 W hq2 hb
      have hp1 : (p.1.length : Int) ≤ 40000 := by omega
      clear hp htk hb hlen hq1 hq2
      obtain ⟨pn, pv⟩ := p
      simp only at hc0 hc1 CN1 CP1 hFS hLS hp1
      generalize ps.take t = acc at *
      generalize hta : ps.take (t + 1) = acc2 at *
      have HTA := Lib.hid hta
      clear hta
      have hkey : keyOf Tryd.prog 9 (.string ⟨pn.toArray⟩) = some (.string pn) := by
        have := Go.WideMaps.keyOf_string_mk (P := Tryd.prog) Tryd.underlying9 (s := ⟨pn.toArray⟩) (by simp [ByteArray.size]; unfold maxLen; omega)
        simpa using this
      have HKEY := Lib.hid hkey
      clear hkey
      have J1 := Lib.hid (HJ.out.kept ((Below.refl _ wr).alloc (Nat.le_refl _) (.cells #[.string ⟨pn.toArray⟩, .string ⟨pv.toArray⟩] 31)))
      have q1 := hp_new wr (.cells #[.string ⟨pn.toArray⟩, .string ⟨pv.toArray⟩] 31)
      have z0 := cell_of 0 q1
      have z1 := cell_of 1 q1
      cases hf : nameB s && formP acc with
      | false =>
        have HFV : Hid ((nameB s && formP acc2) = false) := Lib.hid (by rw [hFS, ← Bool.and_assoc, hf]; rfl)
        clear hf hFS
        have JZ := J1
        have zq := q1
        cases hl : decide (1024 < s.length) || longP acc with
        | true =>
          have HLV : Hid ((decide (1024 < s.length) || longP acc2) = true) := Lib.hid (by rw [hLS, ← Bool.or_assoc, hl]; rfl)
          clear hl hLS
          obtain ⟨D, hown, hsz, hhas, hat⟩ := JZ.out.2.2
          obtain ⟨c, hc, hce⟩ := hat pn
          have hci : (c : Int) ≤ 40000 := by have := HLEN.out; omega
          have hci0 : (0 : Int) ≤ (c : Int) := by omega
          have HDk : Hid (∀ c' : Int, D.atKey (.string pn) (.lit (.int .i64 0)) = .lit (.int .i64 c') → c' = c) := Lib.hid fun c' h => by
            rw [hce] at h
            simp at h
            exact h.symm
          have HCN := Lib.hid (cnt_snoc (p := (pn, pv)) (hown.tidy lawS) hsz hhas hat hc)
          clear hsz hhas hat hce hc
          go_wp2_with (first
            | (at_lookup; refine wpList_lookup_own_int _ rfl _ _ 92 rfl 9 3 .i64 lawS Tryd.underlying92 Tryd.underlying3 (zeroI _) (w.heap.size + 1) acc.length _ rfl hown _ _ rfl HKEY.out ?_; intro c' hat hwc; obtain rfl := HDk.out c' hat)
            | (at_mapUpdate; refine wpList_mapUpdate_own _ rfl _ _ _ 92 rfl 9 3 lawS Tryd.underlying92 _ (w.heap.size + 1) acc.length _ rfl hown (by have := HLEN.out; unfold maxLen; omega) _ _ _ rfl rfl HKEY.out _ [] (plainElem_int Tryd.underlying3 (wf_small c (by omega))) ?_))
          intro w3 hown3 hgrow3
          have J3 : Hid (CkJ w w3 #[.string ⟨s.toArray⟩, .slice (some ⟨b, o, none⟩) n cap, .bool em] acc2) := Lib.hid (JZ.out.counted hgrow3 ⟨_, by rw [HTK.out, List.length_append]; exact hown3, by rw [HTK.out]; exact HCN.out.1, by rw [HTK.out]; exact HCN.out.2.1, by rw [HTK.out]; exact HCN.out.2.2⟩)
          clear hown hown3 hgrow3 zq z0 z1
          go_wp2
          go_roundg (n - (t + 1))
          case measure => have := hg.out; omega
          case rel => exact ⟨t + 1, by omega, Lib.hid (by omega), by go_num, by rw [HTA.out, HLV.out] <;> (try simp) <;> omega, by rw [HTA.out, HFV.out]; try simp, by rw [HTA.out]; exact J3⟩
        | false =>
          have HLV : Hid ((decide (1024 < s.length) || longP acc2) = decide (1024 < pn.length)) := Lib.hid (by rw [hLS, ← Bool.or_assoc, hl]; rfl)
          clear hl hLS
          obtain ⟨D, hown, hsz, hhas, hat⟩ := JZ.out.2.2
          obtain ⟨c, hc, hce⟩ := hat pn
          have hci : (c : Int) ≤ 40000 := by have := HLEN.out; omega
          have hci0 : (0 : Int) ≤ (c : Int) := by omega
          have HDk : Hid (∀ c' : Int, D.atKey (.string pn) (.lit (.int .i64 0)) = .lit (.int .i64 c') → c' = c) := Lib.hid fun c' h => by
            rw [hce] at h
            simp at h
            exact h.symm
          have HCN := Lib.hid (cnt_snoc (p := (pn, pv)) (hown.tidy lawS) hsz hhas hat hc)
          clear hsz hhas hat hce hc
          go_wp2_with (first
            | (at_lookup; refine wpList_lookup_own_int _ rfl _ _ 92 rfl 9 3 .i64 lawS Tryd.underlying92 Tryd.underlying3 (zeroI _) (w.heap.size + 1) acc.length _ rfl hown _ _ rfl HKEY.out ?_; intro c' hat hwc; obtain rfl := HDk.out c' hat)
            | (at_mapUpdate; refine wpList_mapUpdate_own _ rfl _ _ _ 92 rfl 9 3 lawS Tryd.underlying92 _ (w.heap.size + 1) acc.length _ rfl hown (by have := HLEN.out; unfold maxLen; omega) _ _ _ rfl rfl HKEY.out _ [] (plainElem_int Tryd.underlying3 (wf_small c (by omega))) ?_))
          intro w3 hown3 hgrow3
          have J3 : Hid (CkJ w w3 #[.string ⟨s.toArray⟩, .slice (some ⟨b, o, none⟩) n cap, .bool em] acc2) := Lib.hid (JZ.out.counted hgrow3 ⟨_, by rw [HTK.out, List.length_append]; exact hown3, by rw [HTK.out]; exact HCN.out.1, by rw [HTK.out]; exact HCN.out.2.1, by rw [HTK.out]; exact HCN.out.2.2⟩)
          clear hown hown3 hgrow3 zq z0 z1
          go_wp2
          go_roundg (n - (t + 1))
          case measure => have := hg.out; omega
          case rel => exact ⟨t + 1, by omega, Lib.hid (by omega), by go_num, by rw [HTA.out, HLV.out] <;> (try simp) <;> omega, by rw [HTA.out, HFV.out]; try simp, by rw [HTA.out]; exact J3⟩
      | true =>
        have HQ1 := Lib.hid q1
        go_wp2_with fail
        refine (CN1.out _ J1.out.1).mono ?_
        rintro e w2 ⟨rfl, hb⟩
        have J2 := Lib.hid (J1.out.kept hb)
        have q2 : w2.heap[wr.heap.size]? = some (.cells #[.string ⟨pn.toArray⟩, .string ⟨pv.toArray⟩] 31) := (hb.block _ (by simp)).trans HQ1.out
        clear z0 z1 hb q1
        have z0 := cell_of 0 q2
        have z1 := cell_of 1 q2
        cases hnb : nameB pn with
        | false =>
          have HFV : Hid ((nameB s && formP acc2) = false) := Lib.hid (by rw [hFS, ← Bool.and_assoc, hf, hnb]; rfl)
          clear hf hFS hnb
          have JZ := J2
          have zq := q2
          cases hl : decide (1024 < s.length) || longP acc with
          | true =>
            have HLV : Hid ((decide (1024 < s.length) || longP acc2) = true) := Lib.hid (by rw [hLS, ← Bool.or_assoc, hl]; rfl)
            clear hl hLS
            obtain ⟨D, hown, hsz, hhas, hat⟩ := JZ.out.2.2
            obtain ⟨c, hc, hce⟩ := hat pn
            have hci : (c : Int) ≤ 40000 := by have := HLEN.out; omega
            have hci0 : (0 : Int) ≤ (c : Int) := by omega
            have HDk : Hid (∀ c' : Int, D.atKey (.string pn) (.lit (.int .i64 0)) = .lit (.int .i64 c') → c' = c) := Lib.hid fun c' h => by
              rw [hce] at h
              simp at h
              exact h.symm
            have HCN := Lib.hid (cnt_snoc (p := (pn, pv)) (hown.tidy lawS) hsz hhas hat hc)
            clear hsz hhas hat hce hc
            go_wp2_with (first
              | (at_lookup; refine wpList_lookup_own_int _ rfl _ _ 92 rfl 9 3 .i64 lawS Tryd.underlying92 Tryd.underlying3 (zeroI _) (w.heap.size + 1) acc.length _ rfl hown _ _ rfl HKEY.out ?_; intro c' hat hwc; obtain rfl := HDk.out c' hat)
              | (at_mapUpdate; refine wpList_mapUpdate_own _ rfl _ _ _ 92 rfl 9 3 lawS Tryd.underlying92 _ (w.heap.size + 1) acc.length _ rfl hown (by have := HLEN.out; unfold maxLen; omega) _ _ _ rfl rfl HKEY.out _ [] (plainElem_int Tryd.underlying3 (wf_small c (by omega))) ?_))
            intro w3 hown3 hgrow3
            have J3 : Hid (CkJ w w3 #[.string ⟨s.toArray⟩, .slice (some ⟨b, o, none⟩) n cap, .bool em] acc2) := Lib.hid (JZ.out.counted hgrow3 ⟨_, by rw [HTK.out, List.length_append]; exact hown3, by rw [HTK.out]; exact HCN.out.1, by rw [HTK.out]; exact HCN.out.2.1, by rw [HTK.out]; exact HCN.out.2.2⟩)
            clear hown hown3 hgrow3 zq z0 z1
            go_wp2
            go_roundg (n - (t + 1))
            case measure => have := hg.out; omega
            case rel => exact ⟨t + 1, by omega, Lib.hid (by omega), by go_num, by rw [HTA.out, HLV.out] <;> (try simp) <;> omega, by rw [HTA.out, HFV.out]; try simp, by rw [HTA.out]; exact J3⟩
          | false =>
            have HLV : Hid ((decide (1024 < s.length) || longP acc2) = decide (1024 < pn.length)) := Lib.hid (by rw [hLS, ← Bool.or_assoc, hl]; rfl)
            clear hl hLS
            obtain ⟨D, hown, hsz, hhas, hat⟩ := JZ.out.2.2
            obtain ⟨c, hc, hce⟩ := hat pn
            have hci : (c : Int) ≤ 40000 := by have := HLEN.out; omega
            have hci0 : (0 : Int) ≤ (c : Int) := by omega
            have HDk : Hid (∀ c' : Int, D.atKey (.string pn) (.lit (.int .i64 0)) = .lit (.int .i64 c') → c' = c) := Lib.hid fun c' h => by
              rw [hce] at h
              simp at h
              exact h.symm
            have HCN := Lib.hid (cnt_snoc (p := (pn, pv)) (hown.tidy lawS) hsz hhas hat hc)
            clear hsz hhas hat hce hc
            go_wp2_with (first
              | (at_lookup; refine wpList_lookup_own_int _ rfl _ _ 92 rfl 9 3 .i64 lawS Tryd.underlying92 Tryd.underlying3 (zeroI _) (w.heap.size + 1) acc.length _ rfl hown _ _ rfl HKEY.out ?_; intro c' hat hwc; obtain rfl := HDk.out c' hat)
              | (at_mapUpdate; refine wpList_mapUpdate_own _ rfl _ _ _ 92 rfl 9 3 lawS Tryd.underlying92 _ (w.heap.size + 1) acc.length _ rfl hown (by have := HLEN.out; unfold maxLen; omega) _ _ _ rfl rfl HKEY.out _ [] (plainElem_int Tryd.underlying3 (wf_small c (by omega))) ?_))
            intro w3 hown3 hgrow3
            have J3 : Hid (CkJ w w3 #[.string ⟨s.toArray⟩, .slice (some ⟨b, o, none⟩) n cap, .bool em] acc2) := Lib.hid (JZ.out.counted hgrow3 ⟨_, by rw [HTK.out, List.length_append]; exact hown3, by rw [HTK.out]; exact HCN.out.1, by rw [HTK.out]; exact HCN.out.2.1, by rw [HTK.out]; exact HCN.out.2.2⟩)
            clear hown hown3 hgrow3 zq z0 z1
            go_wp2
            go_roundg (n - (t + 1))
            case measure => have := hg.out; omega
            case rel => exact ⟨t + 1, by omega, Lib.hid (by omega), by go_num, by rw [HTA.out, HLV.out] <;> (try simp) <;> omega, by rw [HTA.out, HFV.out]; try simp, by rw [HTA.out]; exact J3⟩
        | true =>
          have HQ2 := Lib.hid q2
          go_wp2_with fail
          refine (CP1.out _ J2.out.1).mono ?_
          rintro e w4 ⟨rfl, hb⟩
          have JZ := Lib.hid (J2.out.kept hb)
          have zq : w4.heap[wr.heap.size]? = some (.cells #[.string ⟨pn.toArray⟩, .string ⟨pv.toArray⟩] 31) := (hb.block _ (lt_of HQ2.out)).trans HQ2.out
          have HFV : Hid ((nameB s && formP acc2) = valOk pv) := Lib.hid (by rw [hFS, ← Bool.and_assoc, hf, hnb]; rfl)
          clear z0 z1 hb hf hFS hnb q2
          have z0 := cell_of 0 zq
          have z1 := cell_of 1 zq
          cases hl : decide (1024 < s.length) || longP acc with
          | true =>
            have HLV : Hid ((decide (1024 < s.length) || longP acc2) = true) := Lib.hid (by rw [hLS, ← Bool.or_assoc, hl]; rfl)
            clear hl hLS
            obtain ⟨D, hown, hsz, hhas, hat⟩ := JZ.out.2.2
            obtain ⟨c, hc, hce⟩ := hat pn
            have hci : (c : Int) ≤ 40000 := by have := HLEN.out; omega
            have hci0 : (0 : Int) ≤ (c : Int) := by omega
            have HDk : Hid (∀ c' : Int, D.atKey (.string pn) (.lit (.int .i64 0)) = .lit (.int .i64 c') → c' = c) := Lib.hid fun c' h => by
              rw [hce] at h
              simp at h
              exact h.symm
            have HCN := Lib.hid (cnt_snoc (p := (pn, pv)) (hown.tidy lawS) hsz hhas hat hc)
            clear hsz hhas hat hce hc
            go_wp2_with (first
              | (at_lookup; refine wpList_lookup_own_int _ rfl _ _ 92 rfl 9 3 .i64 lawS Tryd.underlying92 Tryd.underlying3 (zeroI _) (w.heap.size + 1) acc.length _ rfl hown _ _ rfl HKEY.out ?_; intro c' hat hwc; obtain rfl := HDk.out c' hat)
              | (at_mapUpdate; refine wpList_mapUpdate_own _ rfl _ _ _ 92 rfl 9 3 lawS Tryd.underlying92 _ (w.heap.size + 1) acc.length _ rfl hown (by have := HLEN.out; unfold maxLen; omega) _ _ _ rfl rfl HKEY.out _ [] (plainElem_int Tryd.underlying3 (wf_small c (by omega))) ?_))
            intro w3 hown3 hgrow3
            have J3 : Hid (CkJ w w3 #[.string ⟨s.toArray⟩, .slice (some ⟨b, o, none⟩) n cap, .bool em] acc2) := Lib.hid (JZ.out.counted hgrow3 ⟨_, by rw [HTK.out, List.length_append]; exact hown3, by rw [HTK.out]; exact HCN.out.1, by rw [HTK.out]; exact HCN.out.2.1, by rw [HTK.out]; exact HCN.out.2.2⟩)
            clear hown hown3 hgrow3 zq z0 z1
            go_wp2
            go_roundg (n - (t + 1))
            case measure => have := hg.out; omega
            case rel => exact ⟨t + 1, by omega, Lib.hid (by omega), by go_num, by rw [HTA.out, HLV.out] <;> (try simp) <;> omega, by rw [HTA.out, HFV.out]; try simp, by rw [HTA.out]; exact J3⟩
          | false =>
            have HLV : Hid ((decide (1024 < s.length) || longP acc2) = decide (1024 < pn.length)) := Lib.hid (by rw [hLS, ← Bool.or_assoc, hl]; rfl)
            clear hl hLS
            obtain ⟨D, hown, hsz, hhas, hat⟩ := JZ.out.2.2
            obtain ⟨c, hc, hce⟩ := hat pn
            have hci : (c : Int) ≤ 40000 := by have := HLEN.out; omega
            have hci0 : (0 : Int) ≤ (c : Int) := by omega
            have HDk : Hid (∀ c' : Int, D.atKey (.string pn) (.lit (.int .i64 0)) = .lit (.int .i64 c') → c' = c) := Lib.hid fun c' h => by
              rw [hce] at h
              simp at h
              exact h.symm
            have HCN := Lib.hid (cnt_snoc (p := (pn, pv)) (hown.tidy lawS) hsz hhas hat hc)
            clear hsz hhas hat hce hc
            go_wp2_with (first
              | (at_lookup; refine wpList_lookup_own_int _ rfl _ _ 92 rfl 9 3 .i64 lawS Tryd.underlying92 Tryd.underlying3 (zeroI _) (w.heap.size + 1) acc.length _ rfl hown _ _ rfl HKEY.out ?_; intro c' hat hwc; obtain rfl := HDk.out c' hat)
              | (at_mapUpdate; refine wpList_mapUpdate_own _ rfl _ _ _ 92 rfl 9 3 lawS Tryd.underlying92 _ (w.heap.size + 1) acc.length _ rfl hown (by have := HLEN.out; unfold maxLen; omega) _ _ _ rfl rfl HKEY.out _ [] (plainElem_int Tryd.underlying3 (wf_small c (by omega))) ?_))
            intro w3 hown3 hgrow3
            have J3 : Hid (CkJ w w3 #[.string ⟨s.toArray⟩, .slice (some ⟨b, o, none⟩) n cap, .bool em] acc2) := Lib.hid (JZ.out.counted hgrow3 ⟨_, by rw [HTK.out, List.length_append]; exact hown3, by rw [HTK.out]; exact HCN.out.1, by rw [HTK.out]; exact HCN.out.2.1, by rw [HTK.out]; exact HCN.out.2.2⟩)
            clear hown hown3 hgrow3 zq z0 z1
            go_wp2
            go_roundg (n - (t + 1))
            case measure => have := hg.out; omega
            case rel => exact ⟨t + 1, by omega, Lib.hid (by omega), by go_num, by rw [HTA.out, HLV.out] <;> (try simp) <;> omega, by rw [HTA.out, HFV.out]; try simp, by rw [HTA.out]; exact J3⟩
    · have htni : ¬ (t : Int) < (n : Int) := by omega
      obtain rfl : t = n := by omega
      rw [List.take_of_length_le (by rw [HLN.out]; exact Nat.le_refl _)] at *
      have z1 := cell_of 1 HJ.out.2.1
      obtain ⟨D, hown, hsz, hhas, hat⟩ := HJ.out.2.2
      rw [HLN.out] at hown
      have HSZ := Lib.hid hsz
      have HB := Lib.hid HJ.out.1
      clear hsz hhas hat
      cases hf : nameB s && formP ps with
      | false =>
        go_wp2
        go_ret
        exact ⟨by simp, HB.out⟩
      | true =>
        cases hl : decide (1024 < s.length) || longP ps with
        | true =>
          go_wp2
          go_ret
          exact ⟨by simp, HB.out⟩
        | false =>
          have hdd := HD.out
          rw [HLN.out, ← HSZ.out] at hdd
          by_cases hd : Go.Maps.size D < t
          · have hdi : ((Go.Maps.size D : Nat) : Int) < (t : Int) := by omega
            have HDD : Hid (dupR [] ps = true) := Lib.hid (by rw [hdd]; simpa using hd)
            clear hdd
            go_wp2_with (at_len; refine wpList_len_own _ rfl _ 92 rfl 9 3 Tryd.underlying92 _ (w.heap.size + 1) t D rfl hown ?_)
            go_ret
            exact ⟨by simp, HB.out⟩
          · have hdi : ¬ ((Go.Maps.size D : Nat) : Int) < (t : Int) := by omega
            have HDD : Hid (dupR [] ps = false) := Lib.hid (by rw [hdd]; simpa using hd)
            clear hdd
            have hdr := HDD.out
            go_wp2_with (at_len; refine wpList_len_own _ rfl _ 92 rfl 9 3 Tryd.underlying92 _ (w.heap.size + 1) t D rfl hown ?_)
            go_ret
            exact ⟨rfl, HB.out⟩
theorem pairsT_snoc (ps : List PairL) (p : PairL) : pairsT (ps ++ [p]) = pairsT ps ++ pairT p := by simp [pairsT]
theorem pairT_len (p : PairL) : (pairT p).length = p.1.length + p.2.length + 4 := by simp [pairT]; omega
theorem pairsT_bound : ∀ ps : List PairL, (∀ p ∈ ps, p.1.length ≤ 40000 ∧ p.2.length ≤ 40000) → (pairsT ps).length ≤ ps.length * 80004
  | [], _ => Nat.zero_le _
  | p :: t, h => by
    have ih := pairsT_bound t fun q hq => h q (List.mem_cons_of_mem _ hq)
    have hp := h p List.mem_cons_self
    have hl := pairT_len p
    have e : pairsT (p :: t) = pairT p ++ pairsT t := rfl
    rw [e, List.length_append, List.length_cons]
    omega
/-- While a tag is written: below w all as it was; the tag at b0; the builder at b, with a text. -/
def PtJ (w : World) (b0 b : Nat) (cs : Array Value) (l : List UInt8) (wr : World) : Prop := Below w.heap.size w wr ∧ wr.heap[b0]? = some (.cells cs 26) ∧ Bld (b + 1) b l wr
theorem PtJ.fr {w : World} {b0 b : Nat} {cs : Array Value} {l l' : List UInt8} {wr w' : World} (h : PtJ w b0 b cs l wr) (hb0 : b0 < b) (hb : w.heap.size ≤ b) (hf : Fr (b + 1) b wr w') (hl : Bld (b + 1) b l' w') : PtJ w b0 b cs l' w' :=
  ⟨h.1.trans (hf.below (by omega) hb), by rw [hf.block b0 (by omega) (by omega)]; exact h.2.1, hl⟩
theorem PtJ.alloc {w : World} {b0 b : Nat} {cs : Array Value} {l : List UInt8} {wr : World} (h : PtJ w b0 b cs l wr) (hb0 : b0 < b) (o : Obj) : PtJ w b0 b cs l (wr.alloc o) :=
  ⟨h.1.alloc h.1.size _, by rw [Below.heap_alloc _ _ _ (lt_of h.2.1)]; exact h.2.1, h.2.2.alloc _⟩
def tagV (s : List UInt8) (A : Option Addr) (n cap : Nat) (em : Bool) : Array Value := #[.string ⟨s.toArray⟩, .slice A n cap, .bool em]
/-- What tag.Put answers. -/
def putOut (s : List UInt8) (ps : List PairL) (em : Bool) : List UInt8 × Nat := if checkT s ps = 0 then (tagT ⟨s, ps, em⟩, 0) else ([], checkT s ps)
set_option maxRecDepth 100000 in
set_option maxHeartbeats 8000000 in
theorem tagPut_c (s : List UInt8) (A : Option Addr) (n cap : Nat) (ps : List PairL) (em : Bool) (w : World) (h : PRd w w.heap.size A n cap ps) (hW : W10 w) (hs : s.length ≤ 40000) (hn : n ≤ 40000) (hp : ∀ p ∈ ps, p.1.length ≤ 40000 ∧ p.2.length ≤ 40000) :
    Calls Tryd.prog 10 #[.agg #[.string ⟨s.toArray⟩, .slice A n cap, .bool em]] w fun e w' => e = .returned (.tuple #[.string ⟨(putOut s ps em).1.toArray⟩, .int .i64 ((putOut s ps em).2 : Int)]) ∧ Below w.heap.size w w' := by
  have hb := (Below.refl _ w).alloc (Nat.le_refl _) (.cells #[.string ⟨s.toArray⟩, .slice A n cap, .bool em] 26)
  have q0 := hp_new w (.cells #[.string ⟨s.toArray⟩, .slice A n cap, .bool em] 26)
  have z0 := cell_of 0 q0
  have z1 := cell_of 1 q0
  have z2 := cell_of 2 q0
  have CK := Lib.hid (checkTag_c s A n cap ps em _ ((h.below hb).more hb.size) (hW.below hb) hs hn hp)
  have HB := Lib.hid hb
  have HQ0 := Lib.hid q0
  have HP := Lib.hid h
  have HQ := Lib.hid hp
  have HLN : Hid (ps.length = n) := Lib.hid h.len
  have HPO : Hid (putOut s ps em = if checkT s ps = 0 then (tagT ⟨s, ps, em⟩, 0) else ([], checkT s ps)) := Lib.hid rfl
  rw [HPO.out]
  clear h hW hp hb q0 HPO
  generalize checkT s ps = k at *
  by_cases hk : k = 0
  · subst hk
    rw [if_pos rfl]
    have hbp := pairsT_bound ps HQ.out
    rw [HLN.out] at hbp
    have HBP := Lib.hid hbp
    have sp0 : ∀ w : World, (Op.stringOp .add ⟨#[60]⟩ ⟨s.toArray⟩).run Tryd.prog w = .ok (.string ⟨([60] ++ s).toArray⟩) w := fun w => run_sop (w := w) [60] s (by simp; omega)
    have sp9 : ∀ (l : List UInt8), l.length ≤ 10000000000 → ∀ w : World, (Op.stringOp .add ⟨l.toArray⟩ ⟨#[62]⟩).run Tryd.prog w = .ok (.string ⟨(l ++ [62]).toArray⟩) w := fun l hl w => run_sop (w := w) l [62] (by simp; omega)
    have SP9 := Lib.hid sp9
    clear sp9 hbp
    have HT : Hid (tagT ⟨s, ps, em⟩ = (([60] ++ s) ++ pairsT ps ++ (if em then [47] else [])) ++ [62]) := Lib.hid (by cases em <;> simp [tagT, endT])
    rw [HT.out]
    have HSL : Hid (([60] ++ s).length ≤ 40001) := Lib.hid (by simp; omega)
    generalize [60] ++ s = s1 at *
    go_enter Tryd.func10, Tryd.ntmps10
    go_wp2_with fail
    refine CK.out.mono ?_
    rintro e w1 ⟨rfl, hb1⟩
    have q1 := (hb1.block w.heap.size (by simp)).trans HQ0.out
    have B1 := Lib.hid (HB.out.trans (hb1.mono HB.out.size))
    have hz1 : w.heap.size < w1.heap.size := lt_of q1
    have y0 := cell_of 0 q1
    have J1 : Hid (PtJ w w.heap.size w1.heap.size #[.string ⟨s.toArray⟩, .slice A n cap, .bool em] [] (w1.alloc (.cells #[.pointer none, .slice none 0 0] 57))) := Lib.hid ⟨B1.out.alloc B1.out.size _, by rw [Below.heap_alloc _ _ _ hz1]; exact q1, Bld.fresh _ _ (by omega)⟩
    have C1 := Lib.hid (writeString_k w1.heap.size [] s1 _ J1.out.2.2 (by have := HSL.out; simp; omega))
    have y0' := cell_of 0 J1.out.2.1
    clear z0 z1 z2 hb1 q1 y0
    go_wp2_with fail
    refine C1.out.mono ?_
    rintro e w2 ⟨rfl, hl2, hf2, -⟩
    have J2 := Lib.hid (J1.out.fr hz1 (by omega) hf2 hl2)
    rw [List.nil_append] at J2
    have y1 := cell_of 1 J2.out.2.1
    clear hl2 hf2 y0'
    go_wp2
    go_loopg [20] (n) (fun g i wr => ∃ t : Nat, t ≤ n ∧ Hid (g + t = n) ∧ i = .int .i64 (t : Int) ∧ Hid (PtJ w w.heap.size w1.heap.size #[.string ⟨s.toArray⟩, .slice A n cap, .bool em] (s1 ++ pairsT (ps.take t)) wr))
    case atStart => exact ⟨0, Nat.zero_le _, Lib.hid (by omega), rfl, by simpa [pairsT] using J2⟩
    case round =>
      obtain ⟨t, ht, hg, rfl, HJ⟩ := hrel
      clear y1
      have ht0 : (0 : Int) ≤ (t : Int) := by omega
      have htb : (t : Int) ≤ 40000 := by omega
      by_cases htn : t < n
      · have htni : (t : Int) < (n : Int) := by omega
        obtain ⟨b, o, p, rfl, hb, hp, hc0, hc1⟩ := (HP.out.below HJ.out.1).cell htn
        have htk : ps.take (t + 1) = ps.take t ++ [p] := by rw [List.take_add_one, hp]; rfl
        obtain ⟨hq1, hq2⟩ := HQ.out p (List.mem_of_getElem? hp)
        have hbt := pairsT_bound (ps.take t) fun q hq => HQ.out q (List.mem_of_mem_take hq)
        have HLT : Hid ((s1 ++ pairsT (ps.take t)).length ≤ 4000000000) := Lib.hid (by
          have := HSL.out
          have hl : (ps.take t).length ≤ 40000 := by rw [List.length_take]; omega
          have hm : (ps.take t).length * 80004 ≤ 40000 * 80004 := Nat.mul_le_mul_right _ hl
          rw [List.length_append]
          omega)
        have HNX : Hid (s1 ++ pairsT (ps.take (t + 1)) = (s1 ++ pairsT (ps.take t)) ++ (([32] ++ p.1 ++ [61, 34] ++ p.2) ++ [34])) := Lib.hid (by rw [htk, pairsT_snoc]; simp [pairT])
        have hpl : (([32] ++ p.1 ++ [61, 34] ++ p.2) ++ [34]).length ≤ 80004 := by simp; omega
        clear hp htk hb hbt
        obtain ⟨pn, pv⟩ := p
        simp only at hc0 hc1 HNX hq1 hq2 hpl
        have HPL := Lib.hid hpl
        have s1' : ∀ w : World, (Op.stringOp .add ⟨#[32]⟩ ⟨pn.toArray⟩).run Tryd.prog w = .ok (.string ⟨([32] ++ pn).toArray⟩) w := fun w => run_sop (w := w) [32] pn (by simp; omega)
        have s2' : ∀ w : World, (Op.stringOp .add ⟨([32] ++ pn).toArray⟩ ⟨#[61, 34]⟩).run Tryd.prog w = .ok (.string ⟨([32] ++ pn ++ [61, 34]).toArray⟩) w := fun w => run_sop (w := w) ([32] ++ pn) [61, 34] (by simp; omega)
        have s3' : ∀ w : World, (Op.stringOp .add ⟨([32] ++ pn ++ [61, 34]).toArray⟩ ⟨pv.toArray⟩).run Tryd.prog w = .ok (.string ⟨([32] ++ pn ++ [61, 34] ++ pv).toArray⟩) w := fun w => run_sop (w := w) ([32] ++ pn ++ [61, 34]) pv (by simp; omega)
        have s4' : ∀ w : World, (Op.stringOp .add ⟨([32] ++ pn ++ [61, 34] ++ pv).toArray⟩ ⟨#[34]⟩).run Tryd.prog w = .ok (.string ⟨([32] ++ pn ++ [61, 34] ++ pv ++ [34]).toArray⟩) w := fun w => run_sop (w := w) ([32] ++ pn ++ [61, 34] ++ pv) [34] (by simp; omega)
        clear hpl hq1 hq2
        generalize [32] ++ pn ++ [61, 34] ++ pv ++ [34] = t4 at *
        generalize [32] ++ pn ++ [61, 34] ++ pv = t3 at *
        generalize [32] ++ pn ++ [61, 34] = t2 at *
        generalize [32] ++ pn = t1 at *
        generalize s1 ++ pairsT (ps.take t) = acc at *
        have JA := Lib.hid (HJ.out.alloc hz1 (.cells #[.string ⟨pn.toArray⟩, .string ⟨pv.toArray⟩] 31))
        have qp := hp_new wr (.cells #[.string ⟨pn.toArray⟩, .string ⟨pv.toArray⟩] 31)
        have x0 := cell_of 0 qp
        have x1 := cell_of 1 qp
        have C2 := Lib.hid (writeString_k w1.heap.size acc t4 _ JA.out.2.2 (by have := HLT.out; have := HPL.out; omega))
        clear qp
        go_wp2_with fail
        refine C2.out.mono ?_
        rintro e w3 ⟨rfl, hl3, hf3, -⟩
        have J3 := Lib.hid (JA.out.fr hz1 (by omega) hf3 hl3)
        rw [← HNX.out] at J3
        clear hl3 hf3 x0 x1 hc0 hc1
        go_wp2
        go_roundg (n - (t + 1))
        case measure => have := hg.out; omega
        case rel => exact ⟨t + 1, by omega, Lib.hid (by omega), by go_num, J3⟩
      · have htni : ¬ (t : Int) < (n : Int) := by omega
        obtain rfl : t = n := by omega
        rw [List.take_of_length_le (by rw [HLN.out]; exact Nat.le_refl _)] at HJ
        have y2 := cell_of 2 HJ.out.2.1
        have HLT : Hid ((s1 ++ pairsT ps).length ≤ 4000000000) := Lib.hid (by
          have := HSL.out
          have := HBP.out
          have hm : t * 80004 ≤ 40000 * 80004 := Nat.mul_le_mul_right _ hn
          rw [List.length_append]
          omega)
        obtain ⟨acc, hacc⟩ : ∃ a, s1 ++ pairsT ps = a := ⟨_, rfl⟩
        rw [hacc] at HJ HLT
        have HACC := Lib.hid hacc
        clear hacc
        cases em with
        | true =>
          have C3 := Lib.hid (writeString_k w1.heap.size acc [47] _ HJ.out.2.2 (by have := HLT.out; simp; omega))
          have sp := SP9.out (acc ++ [47]) (by have := HLT.out; simp; omega)
          have HLT2 : Hid ((acc ++ [47]).length ≤ 4000000001) := Lib.hid (by have := HLT.out; simp; omega)
          obtain ⟨acc2, hacc2⟩ : ∃ a, acc ++ [47] = a := ⟨_, rfl⟩
          rw [hacc2] at C3 sp HLT2
          have HACC2 := Lib.hid hacc2
          clear hacc2
          go_wp2_with fail
          refine C3.out.mono ?_
          rintro e w4 ⟨rfl, hl4, hf4, -⟩
          have J4 := Lib.hid (HJ.out.fr hz1 (by omega) hf4 hl4)
          clear hl4 hf4 y2
          go_wp2_with fail
          refine (string_b _ _ _ _ J4.out.2.2).mono ?_
          rintro e w5 ⟨rfl, hb5⟩
          have B5 := Lib.hid (J4.out.1.trans (hb5.mono (by omega)))
          clear hb5
          go_wp2
          go_ret2
          refine ⟨?_, B5.out⟩
          have e9 : s1 ++ (pairsT ps ++ [47, 62]) = acc2 ++ [62] := by rw [← HACC2.out, ← HACC.out]; simp
          show Ending.returned (.tuple #[.string ⟨(acc2 ++ [62]).toArray⟩, .int .i64 0]) = Ending.returned (.tuple #[.string ⟨(s1 ++ (pairsT ps ++ [47, 62])).toArray⟩, .int .i64 0])
          rw [e9]
        | false =>
          have sp := SP9.out acc (by have := HLT.out; omega)
          go_wp2_with fail
          refine (string_b _ _ _ _ HJ.out.2.2).mono ?_
          rintro e w5 ⟨rfl, hb5⟩
          have B5 := Lib.hid (HJ.out.1.trans (hb5.mono (by omega)))
          clear hb5
          go_wp2
          go_ret2
          refine ⟨?_, B5.out⟩
          have e9 : s1 ++ (pairsT ps ++ [62]) = acc ++ [62] := by rw [← HACC.out]; simp
          show Ending.returned (.tuple #[.string ⟨(acc ++ [62]).toArray⟩, .int .i64 0]) = Ending.returned (.tuple #[.string ⟨(s1 ++ (pairsT ps ++ [62])).toArray⟩, .int .i64 0])
          rw [e9]
  · have hki : ((k : Int) != 0) = true := by simp; omega
    have hkj : ¬ (k : Int) = 0 := by omega
    rw [if_neg hk]
    clear hk
    go_enter Tryd.func10, Tryd.ntmps10
    go_wp2_with fail
    refine CK.out.mono ?_
    rintro e w1 ⟨rfl, hb1⟩
    have B1 := Lib.hid (HB.out.trans (hb1.mono HB.out.size))
    clear hb1
    go_wp2
    go_ret2
    exact ⟨rfl, B1.out⟩
set_option maxRecDepth 100000 in
set_option maxHeartbeats 4000000 in
theorem putEnd_c (s : List UInt8) (w : World) (hW : W10 w) (hs : s.length ≤ 40000) :
    Calls Tryd.prog 13 #[.string ⟨s.toArray⟩] w fun e w' => e = .returned (.tuple #[.string ⟨(if checkT s [] = 0 then 60 :: 47 :: (s ++ [62]) else []).toArray⟩, .int .i64 (checkT s [] : Int)]) ∧ Below w.heap.size w w' := by
  have CK := Lib.hid (checkTag_c s none 0 0 [] false w (PRd.nilR w _) hW hs (Nat.zero_le _) (fun p hp => by cases hp))
  have sp0 : ∀ w : World, (Op.stringOp .add ⟨#[60, 47]⟩ ⟨s.toArray⟩).run Tryd.prog w = .ok (.string ⟨([60, 47] ++ s).toArray⟩) w := fun w => run_sop (w := w) [60, 47] s (by simp; omega)
  have sp1 : ∀ w : World, (Op.stringOp .add ⟨([60, 47] ++ s).toArray⟩ ⟨#[62]⟩).run Tryd.prog w = .ok (.string ⟨([60, 47] ++ s ++ [62]).toArray⟩) w := fun w => run_sop (w := w) ([60, 47] ++ s) [62] (by simp; omega)
  have HE : Hid (60 :: 47 :: (s ++ [62]) = [60, 47] ++ s ++ [62]) := Lib.hid (by simp)
  rw [HE.out]
  clear hW hs
  generalize checkT s [] = k at *
  generalize [60, 47] ++ s ++ [62] = t2 at *
  generalize [60, 47] ++ s = t1 at *
  by_cases hk : k = 0
  · subst hk
    rw [if_pos rfl]
    go_enter Tryd.func13, Tryd.ntmps13
    go_wp2_with fail
    refine (CK.out).mono ?_
    rintro e w1 ⟨rfl, hb⟩
    have B1 := Lib.hid hb
    clear hb
    go_wp2
    go_ret2
    exact ⟨rfl, B1.out⟩
  · have hki : ((k : Int) != 0) = true := by simp; omega
    have hkj : ¬ (k : Int) = 0 := by omega
    rw [if_neg hk]
    clear hk
    go_enter Tryd.func13, Tryd.ntmps13
    go_wp2_with fail
    refine (CK.out).mono ?_
    rintro e w1 ⟨rfl, hb⟩
    have B1 := Lib.hid hb
    clear hb
    go_wp2
    go_ret2
    exact ⟨rfl, B1.out⟩
theorem nameOut_len (l : List UInt8) (k : Nat) (hk : k ≤ l.length) (h : (nameOut l k).2.2 = 0) : (nameOut l k).2.1 = k + (nameOut l k).1.length := by
  have hle := endL_le l.length isStart isMore (l.drop k)
  rw [List.length_drop] at hle
  unfold nameOut at h ⊢
  simp only at h ⊢
  split
  · rename_i h0; rw [if_pos h0] at h; cases h
  · rename_i h0
    rw [if_neg h0] at h
    split
    · rename_i h1; rw [if_pos h1] at h; cases h
    · simp only [List.length_take, List.length_drop]
      omega
theorem strict_len (but : UInt8) (l : List UInt8) (p : Nat) (h : (strictAt but l (p : Int)).2.2 = 0) : (strictAt but l (p : Int)).2.1 = p + (strictAt but l (p : Int)).1.length + 2 := by
  unfold strictAt at h ⊢
  split
  · rename_i h0; rw [if_pos h0] at h; exact absurd h h0
  · rename_i h0
    rw [if_neg h0] at h
    have h0' : (quotedAt l (p : Int)).2.2 = 0 := by simpa using h0
    have key : (quotedAt l (p : Int)).2.1 = p + (quotedAt l (p : Int)).1.length + 2 := by
      unfold quotedAt at h0' ⊢
      split
      · rename_i h'
        rw [if_pos h'] at h0'
        cases h0'
      · rename_i h'
        rw [if_neg h'] at h0'
        rw [Int.toNat_natCast] at h0' ⊢
        unfold quotedOut at h0' ⊢
        cases hq : l[p]? with
        | none => rw [hq] at h0'; cases h0'
        | some q =>
          rw [hq] at h0'
          simp only at h0' ⊢
          have hpl : p < l.length := (List.getElem?_eq_some_iff.1 hq).1
          split
          · rename_i h2
            rw [if_pos h2] at h0'
            unfold quotedQ at h0' ⊢
            split
            · rename_i h3
              rw [if_pos h3] at h0'
              cases h0'
            · rename_i h3
              have := ix_lo q (l.drop (p + 1))
              rw [List.length_drop] at this
              simp only [List.length_take, List.length_drop]
              omega
          · rename_i h2
            rw [if_neg h2] at h0'
            cases h0'
    split
    · rename_i h1; rw [if_pos h1] at h; cases h
    · rename_i h1
      rw [if_neg h1] at h
      split
      · rename_i h2; rw [if_pos h2] at h; exact absurd h h2
      · exact key
theorem pair_len (l : List UInt8) (i : Nat) (hi : i ≤ l.length) (h : (pairOut l i).2.2 = 0) : i + (pairOut l i).1.1.length + (pairOut l i).1.2.length + 3 ≤ (pairOut l i).2.1 := by
  unfold pairOut at h ⊢
  split
  · rename_i h0
    rw [if_pos h0] at h
    have hn := nameOut_ok l i hi h0
    have hnl := nameOut_len l i hi h0
    have hb := blankTo_le l _ hn.2.1
    split
    · rename_i h1
      rw [if_pos h1] at h
      have hlt := (List.getElem?_eq_some_iff.1 h1).1
      have hb2 := blankTo_le l (blankTo l (nameOut l i).2.1 + 1) (by omega)
      have hs := strict_len 60 l _ h
      simp only
      rw [hs]
      omega
    · rename_i h1
      rw [if_neg h1] at h
      cases h
  · rename_i h0
    rw [if_neg h0] at h
    exact absurd h h0
theorem stop_ne {l : List UInt8} {i t : Nat} (h : stopB l i t = false) : i ≠ t := fun e => by rw [show stopB l i t = true by unfold stopB; simp [e]] at h; cases h
theorem pairsR_T (l : List UInt8) : ∀ (f : Nat) (acc : List PairL) (t : Nat), t ≤ l.length → l.length + 1 ≤ f + t → (pairsR l f acc t).2.2 = 0 →
    (pairsT (pairsR l f acc t).1).length + t ≤ (pairsT acc).length + (pairsR l f acc t).2.1
  | 0, acc, t, ht, hf, _ => by omega
  | f + 1, acc, t, ht, hf, h => by
    have hb := blankTo_le l t ht
    cases hs : stopB l (blankTo l t) t with
    | true => rw [pairs_stop hs]; exact Nat.le_refl _
    | false =>
      have hne := stop_ne hs
      by_cases he : (pairOut l (blankTo l t)).2.2 = 0
      · cases hh : hasN acc (pairOut l (blankTo l t)).1.1 with
        | true => rw [pairs_twice hs he hh] at h; cases h
        | false =>
          have hp := pairOut_ok l _ hb.2 he
          have hpl := pair_len l _ hb.2 he
          rw [pairs_more hs he hh] at h ⊢
          have ih := pairsR_T l f _ _ hp.2.1 (by omega) h
          have e : (pairsT (acc ++ [(pairOut l (blankTo l t)).1])).length = (pairsT acc).length + (pairT (pairOut l (blankTo l t)).1).length := by simp [pairsT]
          have e2 : (pairT (pairOut l (blankTo l t)).1).length = (pairOut l (blankTo l t)).1.1.length + (pairOut l (blankTo l t)).1.2.length + 4 := by simp [pairT]; omega
          omega
      · rw [pairs_bad hs rfl he] at h
        exact absurd h he
/-- What is read of a tag is no longer written than read, but for two bytes. -/
theorem tag_len (l : List UInt8) (k : Nat) (hk : k ≤ l.length) (h : (openOut l k).2.2 = 0) : (tagT (openOut l k).1).length ≤ l.length + 3 := by
  unfold openOut at h ⊢
  split
  · rename_i h60
    rw [if_pos h60] at h
    have hkl : k < l.length := (List.getElem?_eq_some_iff.1 h60).1
    split
    · rename_i h0; rw [if_pos h0] at h; exact absurd h h0
    · rename_i h0
      rw [if_neg h0] at h
      have h0' : (nameOut l (k + 1)).2.2 = 0 := by simpa using h0
      have hn := nameOut_ok l (k + 1) (by omega) h0'
      have hnl := nameOut_len l (k + 1) (by omega) h0'
      split
      · rename_i h1; rw [if_pos h1] at h; exact absurd h h1
      · rename_i h1
        rw [if_neg h1] at h
        have h1' : (pairsOut l (nameOut l (k + 1)).2.1).2.2 = 0 := by simpa using h1
        have hT := pairsR_T l (l.length + 1) [] _ hn.2.1 (by omega) h1'
        have hle := pairsOut_le l _ hn.2.1
        unfold pairsOut at hle
        have key : ∀ e, (tagT ⟨(nameOut l (k + 1)).1, (pairsOut l (nameOut l (k + 1)).2.1).1, e⟩).length ≤ l.length + 3 := by
          intro e
          have : (endT e).length ≤ 2 := by cases e <;> simp [endT]
          simp only [tagT, List.length_cons, List.length_append, pairsOut]
          simp only [pairsT, List.flatMap_nil, List.length_nil] at hT
          simp only [pairsT]
          omega
        split
        · exact key true
        · split
          · exact key false
          · simp [tagT, noTag, pairsT, endT]
  · simp [tagT, noTag, pairsT, endT]
theorem open_bad (l : List UInt8) (k : Nat) (h : (openOut l k).2.2 ≠ 0) : (openOut l k).1 = noTag := by
  unfold openOut at h ⊢
  repeat' split
  all_goals first | rfl | (exfalso; simp_all)
theorem val_bound {ps : List PairL} {p : PairL} (h : p ∈ ps) : p.1.length + p.2.length ≤ (pairsT ps).length := by
  induction ps with
  | nil => cases h
  | cons q t ih =>
    have e : (pairsT (q :: t)).length = (pairT q).length + (pairsT t).length := by simp [pairsT]
    have e2 : (pairT q).length = q.1.length + q.2.length + 4 := by simp [pairT]; omega
    cases h with
    | head => omega
    | tail _ h => have := ih h; omega
end Go.Proofs.YtpblphddpcogcaaDoor
