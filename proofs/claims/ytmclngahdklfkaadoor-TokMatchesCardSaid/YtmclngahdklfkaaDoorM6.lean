/- Texts of ours, joined: TagP, TagO, Tag0, Tag1, Tag2, Tag3, Tag4, Tag5, Tag6, Tag7, Lit5, Tag8, Tag9, Tag10, TokP. -/
import Derived.Test.YtmclngahdklfkaaDoorRows
import Derived.WalkKit
import Derived.ProofKit
import Derived.OpenShut
import Derived.ShutString
import Derived.ChangeOld
import Derived.Below
import Derived.BigQuiet
import Derived.Deep.QuietTactic
import Derived.Lib.Hide
import Derived.Deep.RegionHeld3
import Derived.Lib.SlBytesConst
import Derived.Laws.CopyOwn
import Derived.Laws.CopyRow
import Derived.Lib.Bytes
import Derived.Deep.LoopGhost
import Derived.Deep.DeepFit
import Derived.Deep.DeepMust
import Derived.WalkSpells
import Derived.WalkLawsBesides
import Derived.Test.YtmclngahdklfkaaDoorM1
import Derived.Test.YtmclngahdklfkaaDoorM3
import Derived.Test.YtmclngahdklfkaaDoorM2
import Derived.Test.YtmclngahdklfkaaDoorM4
import Derived.Test.YtmclngahdklfkaaDoorM5
import Derived.Deep.SlicePairs
import Derived.Deep.DeepHandedRow
import Derived.ChangeArms
import Derived.Laws.EntriesVeiled
import Derived.Laws.Rows
import Derived.Maps.OwnOps
import Derived.Maps.Views
/- Tags: what is read, in plain Lean. -/
namespace Go.Proofs.YtmclngahdklfkaaDoor
open Go.ChangeShapes Go.WideShapes Go.ChangeAt Go.RowKit
set_option linter.unusedVariables false
/-- An attribute: its name, its value. -/
abbrev PairL := List UInt8 × List UInt8
/-- What is read of an attribute at a place: it, the place behind, the error. -/
def pairOut (l : List UInt8) (i : Nat) : PairL × Nat × Nat :=
  if (nameOut l i).2.2 = 0 then
    if l[blankTo l (nameOut l i).2.1]? = some 61 then
      (((nameOut l i).1, (strictAt 60 l (blankTo l (blankTo l (nameOut l i).2.1 + 1) : Nat)).1), (strictAt 60 l (blankTo l (blankTo l (nameOut l i).2.1 + 1) : Nat)).2.1, (strictAt 60 l (blankTo l (blankTo l (nameOut l i).2.1 + 1) : Nat)).2.2)
    else (([], []), 0, 7)
  else (([], []), 0, (nameOut l i).2.2)
def hasN (acc : List PairL) (s : List UInt8) : Bool := acc.any fun p => decide (p.1 = s)
/-- Do the attributes end there? -/
def stopB (l : List UInt8) (i t : Nat) : Bool := decide (i = t) || (match l[i]? with | none => true | some c => decide (c = 47) || decide (c = 62))
def pairsR (l : List UInt8) : Nat → List PairL → Nat → List PairL × Nat × Nat
  | 0, _, _ => ([], 0, 0)
  | f + 1, acc, t => if stopB l (blankTo l t) t = true then (acc, t, 0)
    else if (pairOut l (blankTo l t)).2.2 ≠ 0 then ([], 0, (pairOut l (blankTo l t)).2.2)
    else if hasN acc (pairOut l (blankTo l t)).1.1 = true then ([], 0, 12)
    else pairsR l f (acc ++ [(pairOut l (blankTo l t)).1]) (pairOut l (blankTo l t)).2.1
/-- What is read of attributes at a place. -/
def pairsOut (l : List UInt8) (k : Nat) : List PairL × Nat × Nat := pairsR l (l.length + 1) [] k
theorem pairs_stop {l : List UInt8} {f t : Nat} {acc : List PairL} (h : stopB l (blankTo l t) t = true) : pairsR l (f + 1) acc t = (acc, t, 0) := by rw [pairsR, if_pos h]
theorem pairs_bad {l : List UInt8} {f t : Nat} {acc : List PairL} (h : stopB l (blankTo l t) t = false) {e : Nat} (he : (pairOut l (blankTo l t)).2.2 = e) (h0 : e ≠ 0) : pairsR l (f + 1) acc t = ([], 0, e) := by
  rw [pairsR, if_neg (by simp [h]), if_pos (by rw [he]; exact h0), he]
theorem pairs_twice {l : List UInt8} {f t : Nat} {acc : List PairL} (h : stopB l (blankTo l t) t = false) (he : (pairOut l (blankTo l t)).2.2 = 0) (h0 : hasN acc (pairOut l (blankTo l t)).1.1 = true) : pairsR l (f + 1) acc t = ([], 0, 12) := by
  rw [pairsR, if_neg (by simp [h]), if_neg (by simp [he]), if_pos h0]
theorem pairs_more {l : List UInt8} {f t : Nat} {acc : List PairL} (h : stopB l (blankTo l t) t = false) (he : (pairOut l (blankTo l t)).2.2 = 0) (h0 : hasN acc (pairOut l (blankTo l t)).1.1 = false) :
    pairsR l (f + 1) acc t = pairsR l f (acc ++ [(pairOut l (blankTo l t)).1]) (pairOut l (blankTo l t)).2.1 := by
  rw [pairsR, if_neg (by simp [h]), if_neg (by simp [he]), if_neg (by simp [h0])]
theorem nameOut_ok (l : List UInt8) (k : Nat) (hk : k ≤ l.length) (h : (nameOut l k).2.2 = 0) : k < (nameOut l k).2.1 ∧ (nameOut l k).2.1 ≤ l.length ∧ (nameOut l k).1.length ≤ 1024 := by
  have hle := endL_le l.length isStart isMore (l.drop k)
  rw [List.length_drop] at hle
  unfold nameOut at h ⊢
  simp only at h ⊢
  split
  · rename_i h0; rw [if_pos h0] at h; cases h
  · rename_i h0
    rw [if_neg h0] at h
    split
    · rename_i h1; rw [if_pos h1] at h; cases h
    · rename_i h1
      refine ⟨by simp only; omega, by simp only; omega, ?_⟩
      simp only [List.length_take]
      omega
theorem quotedAt_next2 (l : List UInt8) (p : Nat) (h : (quotedAt l (p : Int)).2.2 = 0) : p < (quotedAt l (p : Int)).2.1 ∧ (quotedAt l (p : Int)).2.1 ≤ l.length := by
  unfold quotedAt at h ⊢
  split
  · rename_i h'
    rw [if_pos h'] at h
    cases h
  · rename_i h'
    rw [if_neg h'] at h
    rw [Int.toNat_natCast] at h ⊢
    unfold quotedOut at h ⊢
    cases hq : l[p]? with
    | none => rw [hq] at h; cases h
    | some q =>
      rw [hq] at h
      simp only at h ⊢
      have hpl : p < l.length := (List.getElem?_eq_some_iff.1 hq).1
      split
      · rename_i h2
        rw [if_pos h2] at h
        unfold quotedQ at h ⊢
        split
        · rename_i h3
          rw [if_pos h3] at h
          cases h
        · rename_i h3
          have := ix_lo q (l.drop (p + 1))
          rw [List.length_drop] at this
          simp only
          omega
      · rename_i h2
        rw [if_neg h2] at h
        cases h
theorem strictAt_next (but : UInt8) (l : List UInt8) (p : Nat) (h : (strictAt but l (p : Int)).2.2 = 0) : p < (strictAt but l (p : Int)).2.1 ∧ (strictAt but l (p : Int)).2.1 ≤ l.length := by
  unfold strictAt at h ⊢
  split
  · rename_i h0; rw [if_pos h0] at h; exact absurd h h0
  · rename_i h0
    rw [if_neg h0] at h
    have h0' : (quotedAt l (p : Int)).2.2 = 0 := by simpa using h0
    split
    · rename_i h1; rw [if_pos h1] at h; cases h
    · rename_i h1
      rw [if_neg h1] at h
      split
      · rename_i h2; rw [if_pos h2] at h; exact absurd h h2
      · exact quotedAt_next2 l p h0'
theorem strictAt_len (but : UInt8) (l : List UInt8) (p : Int) : (strictAt but l p).1.length ≤ l.length := by
  unfold strictAt
  split
  · simp
  · split
    · simp
    · split
      · simp
      · exact quotedAt_le l p
theorem pairOut_ok (l : List UInt8) (i : Nat) (hi : i ≤ l.length) (h : (pairOut l i).2.2 = 0) : i < (pairOut l i).2.1 ∧ (pairOut l i).2.1 ≤ l.length ∧ (pairOut l i).1.1.length ≤ 1024 ∧ (pairOut l i).1.2.length ≤ l.length := by
  unfold pairOut at h ⊢
  split
  · rename_i h0
    rw [if_pos h0] at h
    have hn := nameOut_ok l i hi h0
    have hb := blankTo_le l _ hn.2.1
    split
    · rename_i h1
      rw [if_pos h1] at h
      have hlt := (List.getElem?_eq_some_iff.1 h1).1
      have hb2 := blankTo_le l (blankTo l (nameOut l i).2.1 + 1) (by omega)
      have hs := strictAt_next 60 l _ h
      have hsl := strictAt_len 60 l (blankTo l (blankTo l (nameOut l i).2.1 + 1) : Nat)
      exact ⟨by show i < (strictAt 60 l _).2.1; omega, hs.2, hn.2.2, hsl⟩
    · rename_i h1
      rw [if_neg h1] at h
      cases h
  · rename_i h0
    rw [if_neg h0] at h
    exact absurd h h0
theorem hasN_snoc (acc : List PairL) (p : PairL) (s : List UInt8) : hasN (acc ++ [p]) s = (hasN acc s || decide (p.1 = s)) := by simp [hasN, List.any_append]
/-- An element's begin, as it is written. -/
structure TagL where
  name : List UInt8
  pairs : List PairL
  empty : Bool
def noTag : TagL := ⟨[], [], false⟩
/-- What is read of an element's begin at a place. -/
def openOut (l : List UInt8) (k : Nat) : TagL × Nat × Nat :=
  if l[k]? = some 60 then
    if (nameOut l (k + 1)).2.2 ≠ 0 then (noTag, 0, (nameOut l (k + 1)).2.2)
    else if (pairsOut l (nameOut l (k + 1)).2.1).2.2 ≠ 0 then (noTag, 0, (pairsOut l (nameOut l (k + 1)).2.1).2.2)
    else if [47, 62].isPrefixOf (l.drop (blankTo l (pairsOut l (nameOut l (k + 1)).2.1).2.1)) = true then
      (⟨(nameOut l (k + 1)).1, (pairsOut l (nameOut l (k + 1)).2.1).1, true⟩, blankTo l (pairsOut l (nameOut l (k + 1)).2.1).2.1 + 2, 0)
    else if [62].isPrefixOf (l.drop (blankTo l (pairsOut l (nameOut l (k + 1)).2.1).2.1)) = true then
      (⟨(nameOut l (k + 1)).1, (pairsOut l (nameOut l (k + 1)).2.1).1, false⟩, blankTo l (pairsOut l (nameOut l (k + 1)).2.1).2.1 + 1, 0)
    else (noTag, 0, 7)
  else (noTag, 0, 7)
/-- What is read of an element's end at a place. -/
def closeOut (l : List UInt8) (k : Nat) : List UInt8 × Nat × Nat :=
  if [60, 47].isPrefixOf (l.drop k) = true then
    if (nameOut l (k + 2)).2.2 ≠ 0 then ([], 0, (nameOut l (k + 2)).2.2)
    else if [62].isPrefixOf (l.drop (blankTo l (nameOut l (k + 2)).2.1)) = true then ((nameOut l (k + 2)).1, blankTo l (nameOut l (k + 2)).2.1 + 1, 0)
    else ([], 0, 7)
  else ([], 0, 7)
theorem pairsR_le (l : List UInt8) : ∀ (f : Nat) (acc : List PairL) (t : Nat), t ≤ l.length → (pairsR l f acc t).2.1 ≤ l.length
  | 0, acc, t, ht => Nat.zero_le _
  | f + 1, acc, t, ht => by
    have hb := blankTo_le l t ht
    cases hs : stopB l (blankTo l t) t with
    | true => rw [pairs_stop hs]; exact ht
    | false =>
      by_cases he : (pairOut l (blankTo l t)).2.2 = 0
      · cases hh : hasN acc (pairOut l (blankTo l t)).1.1 with
        | true => rw [pairs_twice hs he hh]; exact Nat.zero_le _
        | false =>
          rw [pairs_more hs he hh]
          exact pairsR_le l f _ _ (pairOut_ok l _ hb.2 he).2.1
      · rw [pairs_bad hs rfl he]
        exact Nat.zero_le _
theorem pairsOut_le (l : List UInt8) (k : Nat) (hk : k ≤ l.length) : (pairsOut l k).2.1 ≤ l.length := pairsR_le l _ [] k hk
/-- The cells of attributes. -/
def cellsP (ps : List PairL) : List Value := ps.flatMap fun p => [.string ⟨p.1.toArray⟩, .string ⟨p.2.toArray⟩]
theorem cellsP_length (ps : List PairL) : (cellsP ps).length = ps.length * 2 := by
  induction ps with
  | nil => rfl
  | cons p t ih => simp only [cellsP, List.flatMap_cons, List.length_append, List.length_cons, List.length_nil] at ih ⊢; omega
theorem cellsP_snoc (ps : List PairL) (p : PairL) : cellsP (ps ++ [p]) = cellsP ps ++ [.string ⟨p.1.toArray⟩, .string ⟨p.2.toArray⟩] := by simp [cellsP]
theorem cellsP_get : ∀ (ps : List PairL) (i : Nat) (p : PairL), ps[i]? = some p → (cellsP ps)[i * 2]? = some (.string ⟨p.1.toArray⟩) ∧ (cellsP ps)[i * 2 + 1]? = some (.string ⟨p.2.toArray⟩)
  | [], i, p, h => by cases h
  | q :: t, 0, p, h => by simp at h; subst h; exact ⟨rfl, rfl⟩
  | q :: t, i + 1, p, h => by
    have ih := cellsP_get t i p (by simpa using h)
    have e : cellsP (q :: t) = [.string ⟨q.1.toArray⟩, .string ⟨q.2.toArray⟩] ++ cellsP t := rfl
    rw [e, List.getElem?_append_right (by simp; omega), List.getElem?_append_right (by simp; omega)]
    simp only [List.length_cons, List.length_nil]
    rw [show (i + 1) * 2 - 2 = i * 2 by omega, show (i + 1) * 2 + 1 - 2 = i * 2 + 1 by omega]
    exact ih
/-- A row of attributes that can be read. -/
structure PRd (w : World) (B : Nat) (A : Option Addr) (n cap : Nat) (ps : List PairL) : Prop where
  len : ps.length = n
  le : n ≤ cap
  fit : cap ≤ maxLen
  nil : A = none → cap = 0
  at_ : 0 < cap → ∃ b o, A = some ⟨b, o, none⟩ ∧ b < B ∧ ∀ i p, ps[i]? = some p → w.cell? ⟨b, o + i * 2, none⟩ = some (.string ⟨p.1.toArray⟩) ∧ w.cell? ⟨b, o + i * 2 + 1, none⟩ = some (.string ⟨p.2.toArray⟩)
theorem PRd.keep {w w' : World} {B n cap : Nat} {A : Option Addr} {ps : List PairL} (h : PRd w B A n cap ps) (hk : ∀ p : Addr, p.block < B → w'.cell? p = w.cell? p) : PRd w' B A n cap ps :=
  ⟨h.len, h.le, h.fit, h.nil, fun h0 => by
    obtain ⟨b, o, e, hb, hc⟩ := h.at_ h0
    exact ⟨b, o, e, hb, fun i p hp => ⟨(hk ⟨b, _, none⟩ hb).trans (hc i p hp).1, (hk ⟨b, _, none⟩ hb).trans (hc i p hp).2⟩⟩⟩
theorem PRd.more {w : World} {B B' n cap : Nat} {A : Option Addr} {ps : List PairL} (h : PRd w B A n cap ps) (hB : B ≤ B') : PRd w B' A n cap ps :=
  ⟨h.len, h.le, h.fit, h.nil, fun h0 => by
    obtain ⟨b, o, e, hb, hc⟩ := h.at_ h0
    exact ⟨b, o, e, by omega, hc⟩⟩
theorem PRd.below {w w' : World} {B n cap : Nat} {A : Option Addr} {ps : List PairL} (h : PRd w B A n cap ps) (hb : Below B w w') : PRd w' B A n cap ps := h.keep fun p hp => hb.cell hp
theorem PRd.nilR (w : World) (B : Nat) : PRd w B none 0 0 [] := ⟨rfl, Nat.le_refl _, Nat.zero_le _, fun _ => rfl, fun h => absurd h (by omega)⟩
theorem PRd.ofOwn {w : World} {base : Nat} {e : TypeId} {v : Value} {n : Nat} {ps : List PairL} (h : w.ownsRow base e 2 v n (cellsP ps)) : ∃ A c, v = .slice A n c ∧ PRd w w.heap.size A n c ps := by
  obtain ⟨hl, h2 | ⟨g, cap, cur, hv, hg, hh, hn, hc, hs, ht⟩⟩ := h
  · obtain ⟨hv, hn⟩ := h2
    subst hn
    rw [cellsP_length] at hl
    have : ps = [] := List.length_eq_zero_iff.1 (by omega)
    subst this
    exact ⟨none, 0, hv, PRd.nilR w _⟩
  · rw [cellsP_length] at hl
    refine ⟨_, cap, hv, by omega, hn, hc, (fun e => by cases e), fun _ => ⟨g, 0, rfl, lt_of hh, fun i p hp => ?_⟩⟩
    have hi : i < ps.length := (List.getElem?_eq_some_iff.1 hp).1
    have hcp := cellsP_get ps i p hp
    rw [← ht, List.getElem?_take_of_lt (by omega), List.getElem?_take_of_lt (by omega)] at hcp
    rw [cell_of _ hh, cell_of _ hh, Nat.zero_add]
    simpa using hcp
theorem PRd.cell {w : World} {B n cap : Nat} {A : Option Addr} {ps : List PairL} {i : Nat} (h : PRd w B A n cap ps) (hi : i < n) :
    ∃ b o p, A = some ⟨b, o, none⟩ ∧ b < B ∧ ps[i]? = some p ∧ w.cell? ⟨b, o + i * 2, none⟩ = some (.string ⟨p.1.toArray⟩) ∧ w.cell? ⟨b, o + i * 2 + 1, none⟩ = some (.string ⟨p.2.toArray⟩) := by
  obtain ⟨b, o, e, hb, hc⟩ := h.at_ (by have := h.le; omega)
  have hl : i < ps.length := by rw [h.len]; exact hi
  have hp := List.getElem?_eq_getElem hl
  exact ⟨b, o, ps[i], e, hb, hp, (hc i _ hp).1, (hc i _ hp).2⟩
theorem PRd.take {w : World} {B n cap : Nat} {A : Option Addr} {ps : List PairL} {k : Nat} (h : PRd w B A n cap ps) (hk : k ≤ n) : PRd w B A k cap (ps.take k) :=
  ⟨by rw [List.length_take, h.len]; omega, by have := h.le; omega, h.fit, h.nil, fun h0 => by
    obtain ⟨b, o, e, hb, hc⟩ := h.at_ h0
    exact ⟨b, o, e, hb, fun i p hp => hc i p (by rw [List.getElem?_take] at hp; split at hp
                                                 · exact hp
                                                 · cases hp)⟩⟩
end Go.Proofs.YtmclngahdklfkaaDoor
/- Readings of rows of attributes. -/
namespace Go.Proofs.YtmclngahdklfkaaDoor
open Go.ChangeShapes Go.WideShapes Go.ChangeAt Go.RowKit
set_option linter.unusedVariables false
open Go.Deep in
/-- A reading of a row of attributes is a row that can be read. -/
theorem prd_of_trod {H : Type} {enc : TypeId × Value → H} {W : World} {n : Nat} {v : Value} {x : DataW H × List MemPlace} (h : DataW.trod enc Tryd.prog W 0 (fun _ => true) true n 25 [v] = some x) :
    ∃ A len cap ps, v = .slice A len cap ∧ PRd W W.heap.size A len cap ps ∧ ∀ p ∈ ps, p.1.length ≤ maxLen ∧ p.2.length ≤ maxLen := by
  rcases open_slice_pairs Tryd.underlying25 Tryd.underlying99 (by kernel_rfl) rfl rfl (by kernel_rfl) (by kernel_rfl) h with ⟨hc, _⟩ | ⟨a, len, cap, m, k, V0, V1, D0, D1, P0, P1, hc, hb, hl, hm, hmm, hx, hi⟩
  · simp at hc
    subst hc
    exact ⟨none, 0, 0, [], rfl, PRd.nilR W _, fun p hp => by cases hp⟩
  · simp at hc
    subst hc
    have hmc : m = cap := by simpa using hmm
    subst hmc
    have key : ∀ i, i < m → ∃ p : PairL, W.cell? (a.add (i * 2)) = some (.string ⟨p.1.toArray⟩) ∧ W.cell? (a.add (i * 2 + 1)) = some (.string ⟨p.2.toArray⟩) ∧ p.1.length ≤ maxLen ∧ p.2.length ≤ maxLen := by
      intro i hi'
      obtain ⟨c0, c1, t0, t1⟩ := hi i hi'
      obtain ⟨s0, e0, _, z0⟩ := DataW.trod_string Tryd.underlying9 t0
      obtain ⟨s1, e1, _, z1⟩ := DataW.trod_string Tryd.underlying9 t1
      simp at e0 e1
      refine ⟨(s0.data.toList, s1.data.toList), by rw [c0, e0], by rw [c1, e1], by rw [Array.length_toList]; exact z0, by rw [Array.length_toList]; exact z1⟩
    obtain ⟨f, hf⟩ := choose_lt key
    refine ⟨some a, len, m, (List.range len).map f, rfl, ⟨by simp, hl, hm, (fun e => by cases e), fun h0 => ?_⟩, ?_⟩
    · obtain ⟨b, o, s⟩ := a
      have h1 := (hf 0 h0).1
      have hs : s = none := by simpa [Addr.add] using World.cell?_spot h1
      subst hs
      refine ⟨b, o, rfl, by simpa [Addr.add] using World.block_lt_of_cell? W _ h1, fun i p hp => ?_⟩
      rw [List.getElem?_map] at hp
      have hil : i < len := by
        rcases Nat.lt_or_ge i len with h' | h'
        · exact h'
        · rw [List.getElem?_eq_none (by simp; omega)] at hp; cases hp
      rw [List.getElem?_range hil] at hp
      simp at hp
      subst hp
      have h2 := hf i (by omega)
      rw [addr_add, addr_add] at h2
      exact ⟨h2.1, h2.2.1⟩
    · intro p hp
      obtain ⟨i, hi', rfl⟩ := List.mem_map.1 hp
      have := hf i (by have := List.mem_range.1 hi'; omega)
      exact this.2.2
end Go.Proofs.YtmclngahdklfkaaDoor
/- A result in a block of its own. -/
namespace Go.Proofs.YtmclngahdklfkaaDoor
open Go.ChangeShapes Go.WideShapes Go.ChangeAt Go.RowKit
set_option linter.unusedVariables false
theorem results_c3 {P : Program} {fn : Func} {p u v : Tmp} {ty : TypeId} (h : fn.results = #[.cell p ty, .tmp u, .tmp v]) (tmps : Array Value) (w : World) (g : Nat) (t : TypeId) (cs : Array Value) (fr : Nat × Nat) (d : TypeDesc)
    (hp : tmps.getD p undef = .pointer (some ⟨g, 0, none⟩)) (hg : w.heap[g]? = some (.cells cs t fr))
    (hu : P.underlying ty = some d) (hd : (match d with | .struct _ | .array _ _ => true | _ => false) = true) (hi : (P.info? ty).map (·.size) = some cs.size) :
    (results fn tmps).run P w = .ok (.tuple #[.agg cs, tmps.getD u undef, tmps.getD v undef]) w := by
  have hp' : tmps[p]?.getD undef = .pointer (some ⟨g, 0, none⟩) := by simpa using hp
  simp [results, h, hp', asAddr, run_loadVar_row w g t ty cs fr d hg hu hd hi]
/-- While a result lies in a block of its own: below w all as it was, and that block. -/
def CJ (T : TypeId) (w W : World) (rs : Array Value) : Prop := Below w.heap.size w W ∧ W.heap[w.heap.size]? = some (.cells rs T)
theorem CJ.start (T : TypeId) (w : World) (rs : Array Value) : CJ T w (w.alloc (.cells rs T)) rs := ⟨(Below.refl _ _).alloc (Nat.le_refl _) _, hp_new _ _⟩
theorem CJ.kept {T : TypeId} {w W W' : World} {rs : Array Value} (h : CJ T w W rs) (hb : Below W.heap.size W W') : CJ T w W' rs :=
  ⟨h.1.trans (hb.mono h.1.size), by rw [hb.block _ (lt_of h.2)]; exact h.2⟩
theorem CJ.row {T : TypeId} {w W : World} {rs : Array Value} (h : CJ T w W rs) (cs : Array Value) : CJ T w (W.setRow w.heap.size cs) cs := by
  refine ⟨⟨h.1.os, h.1.tape, h.1.output, ?_, fun k hk => ?_⟩, setRow_heap _ _ _ _ _ _ h.2⟩
  · have := h.1.size; simpa [World.setRow] using this
  · rw [setRow_other _ _ _ _ (by omega)]; exact h.1.block k hk
theorem pre_one (a : UInt8) (l : List UInt8) (k : Nat) : [a].isPrefixOf (l.drop k) = decide (l[k]? = some a) := by
  rw [Bool.eq_iff_iff, decide_eq_true_eq]
  constructor
  · intro h
    have := pre_get h 0 (by simp)
    simpa using this
  · intro h
    exact pre_of_get fun i hi => by
      simp at hi
      subst hi
      simpa using h
end Go.Proofs.YtmclngahdklfkaaDoor
/- narthex/tag.stands -/
namespace Go.Proofs.YtmclngahdklfkaaDoor
open Go.ChangeShapes Go.WideShapes Go.ChangeAt Go.RowKit
set_option linter.unusedVariables false
/-- What stands at a place, as far as a mark is long. -/
theorem pre_short (p l : List UInt8) (k : Nat) : p.isPrefixOf ((l.drop k).take (min l.length (k + p.length) - k)) = p.isPrefixOf (l.drop k) := by
  rw [Bool.eq_iff_iff, List.isPrefixOf_iff_prefix, List.isPrefixOf_iff_prefix]
  constructor
  · intro h; exact h.trans (List.take_prefix _ _)
  · intro h
    have hl := h.length_le
    rw [List.length_drop] at hl
    by_cases hp : p = []
    · subst hp; exact List.nil_prefix
    · have : 0 < p.length := List.length_pos_iff.2 hp
      rw [List.prefix_iff_eq_take] at h ⊢
      rw [List.take_take, show min p.length (min l.length (k + p.length) - k) = p.length by omega]
      exact h
set_option maxRecDepth 100000 in
set_option maxHeartbeats 4000000 in
theorem stands_c (A : Option Addr) (n cap : Nat) (l : List UInt8) (k : Nat) (p : List UInt8) (B : Nat) (w : World) (h : Byt w B A n cap l) (hm : n ≤ 1000000) (hpl : p.length ≤ 1000000) (hk : k ≤ n) :
    Calls Tryd.prog 31 #[.slice A n cap, .int .i64 k, .string ⟨p.toArray⟩] w fun e w' => e = .returned (.bool (p.isPrefixOf (l.drop k))) ∧ w = w' := by
  have hk0 : (0 : Int) ≤ (k : Int) := by omega
  have hk1 : (k : Int) ≤ 1000000 := by omega
  have hn1 : (n : Int) ≤ 1000000 := by omega
  have hp1 : (p.length : Int) ≤ 1000000 := by omega
  have hcap := h.le
  have hln := h.length
  have HP := Lib.hid (pre_short p l k)
  rw [hln] at HP
  have hst := ((h.drop (k := k) hk).take (k := min n (k + p.length) - k) (by omega)).str
  have hx : ∀ W, Calls Tryd.prog 50 #[.string ⟨((l.drop k).take (min n (k + p.length) - k)).toArray⟩, .string ⟨p.toArray⟩] W fun e w' => e = .returned (.bool (p.isPrefixOf ((l.drop k).take (min n (k + p.length) - k)))) ∧ w' = W := fun W => Tryd.strings_HasPrefix ⟨((l.drop k).take (min n (k + p.length) - k)).toArray⟩ ⟨p.toArray⟩ W
  rw [HP.out] at hx
  have CX := Lib.hid hx
  by_cases hc : k + p.length < n
  · have hci : (k : Int) + (p.length : Int) < (n : Int) := by omega
    have hmi : min (n : Int) ((k : Int) + (p.length : Int)) = (k : Int) + (p.length : Int) := by omega
    have hmn : min n (k + p.length) - k = p.length := by omega
    rw [hmn] at hst CX
    have hrf : ∀ w2 : World, (Instr.slice 37 (.slice A n cap) (some (.int .i64 (k : Int))) (some (.int .i64 ((k : Int) + (p.length : Int)))) none).run Tryd.prog w2 = .ok (.slice (cutA A cap k) p.length (cap - k)) w2 := fun w2 => by
      have := run_fromTo (w := w2) A n cap k (k + p.length) (by omega) (by omega)
      rw [show k + p.length - k = p.length by omega, show ((k + p.length : Nat) : Int) = (k : Int) + (p.length : Int) by omega] at this
      exact this
    clear h hcap hln HP hx hc hmn
    generalize (l.drop k).take p.length = q at *
    generalize p.isPrefixOf (l.drop k) = r at *
    go_enter Tryd.func31, Tryd.ntmps31
    go_wp2_with fail
    refine (CX.out _).mono ?_
    rintro e wq ⟨rfl, hwq⟩
    subst hwq
    go_wp2
    go_ret
    exact ⟨rfl, rfl⟩
  · have hci : ¬ (k : Int) + (p.length : Int) < (n : Int) := by omega
    have hmi : min (n : Int) ((k : Int) + (p.length : Int)) = (n : Int) := by omega
    have hmn : min n (k + p.length) - k = n - k := by omega
    rw [hmn] at hst CX
    have hrf : ∀ w2 : World, (Instr.slice 37 (.slice A n cap) (some (.int .i64 (k : Int))) (some (.int .i64 (n : Int))) none).run Tryd.prog w2 = .ok (.slice (cutA A cap k) (n - k) (cap - k)) w2 := fun w2 => run_fromTo (w := w2) A n cap k n (by omega) (by omega)
    clear h hcap hln HP hx hmn
    generalize (l.drop k).take (n - k) = q at *
    generalize p.isPrefixOf (l.drop k) = r at *
    generalize n - k = m at *
    go_enter Tryd.func31, Tryd.ntmps31
    go_wp2_with fail
    refine (CX.out _).mono ?_
    rintro e wq ⟨rfl, hwq⟩
    subst hwq
    go_wp2
    go_ret
    exact ⟨rfl, rfl⟩
end Go.Proofs.YtmclngahdklfkaaDoor
/- narthex/tag.pair -/
namespace Go.Proofs.YtmclngahdklfkaaDoor
open Go.ChangeShapes Go.WideShapes Go.ChangeAt Go.RowKit
set_option linter.unusedVariables false
/-- What is asked of the world. -/
structure W10 (w : World) : Prop where
  tabs : Tabs w
  forms : Forms w
theorem W10.below {w w' : World} (h : W10 w) (hb : Below w.heap.size w w') : W10 w' := ⟨h.tabs.below hb (h.tabs.low h.forms), h.forms.below hb h.forms.lt⟩
def tpairV (o : PairL × Nat × Nat) : Value := .tuple #[.agg #[.string ⟨o.1.1.toArray⟩, .string ⟨o.1.2.toArray⟩], .int .i64 (o.2.1 : Int), .int .i64 (o.2.2 : Int)]
set_option maxRecDepth 100000 in
set_option maxHeartbeats 4000000 in
theorem tagPair_c (A : Option Addr) (n cap : Nat) (l : List UInt8) (k : Nat) (w : World) (h : Byt w w.heap.size A n cap l) (hW : W10 w) (hm : n ≤ 40000) (hk : k ≤ n) :
    Calls Tryd.prog 71 #[.slice A n cap, .int .i64 k] w fun e w' => e = .returned (tpairV (pairOut l k)) ∧ Below w.heap.size w w' := by
  have hln := h.length
  have hJ := CJ.start 99 w #[.string ⟨#[]⟩, .string ⟨#[]⟩]
  have hi : (Tryd.prog.info? 99).map (·.size) = some 2 := by kernel_rfl
  obtain ⟨d, hu⟩ := isStruct_of (P := Tryd.prog) (t := 99) (by kernel_rfl)
  have HU := Lib.hid (And.intro hi hu)
  have HK : Hid (∀ W rs, CJ 99 w W rs → Byt W W.heap.size A n cap l ∧ W10 W) := Lib.hid fun W rs hJ => ⟨(h.below hJ.1).more hJ.1.size, hW.below hJ.1⟩
  have c1 := name_c A n cap l k _ (HK.out _ _ hJ).1 (HK.out _ _ hJ).2.forms (HK.out _ _ hJ).2.tabs.n (by omega) hk
  have CB : Hid (∀ t, t ≤ n → ∀ W rs, CJ 99 w W rs → Calls Tryd.prog 28 #[.slice A n cap, .int .i64 (t : Int)] W fun e w' => e = .returned (.int .i64 (blankTo l t)) ∧ W = w') := Lib.hid fun t ht W rs hb => blanks_c A n cap l t _ W (HK.out W rs hb).1 (by omega) ht
  have CS : Hid (∀ t, t ≤ n → ∀ W rs, CJ 99 w W rs → Calls Tryd.prog 31 #[.slice A n cap, .int .i64 (t : Int), .string ⟨#[61]⟩] W fun e w' => e = .returned (.bool (decide (l[t]? = some 61))) ∧ W = w') := Lib.hid fun t ht W rs hb => by
    have := stands_c A n cap l t [61] _ W (HK.out W rs hb).1 (by omega) (by simp) ht
    rwa [pre_one] at this
  have CV : Hid (∀ t : Nat, ∀ W rs, CJ 99 w W rs → Calls Tryd.prog 83 #[.slice A n cap, .int .i64 (t : Int)] W fun e w' => e = .returned (outV (strictAt 60 l (t : Int))) ∧ Below W.heap.size W w') := Lib.hid fun t W rs hb => litValue_c A n cap l t W (HK.out W rs hb).1 (HK.out W rs hb).2.tabs (HK.out W rs hb).2.forms hm
  have hok := nameOut_ok l k (by omega)
  have J0 := Lib.hid hJ
  clear hi hu hJ
  unfold pairOut
  generalize nameOut l k = m at *
  obtain ⟨s, nx, e⟩ := m
  simp only at hok ⊢
  unfold outV at c1
  simp only at c1
  have C1 := Lib.hid c1
  clear c1
  by_cases he : e = 0
  · subst he
    obtain ⟨h1, h2, h3⟩ := hok rfl
    rw [if_pos rfl]
    have c2 := CB.out nx (by omega)
    have hb := blankTo_le l nx h2
    generalize blankTo l nx = b at *
    have c3 := CS.out b (by omega)
    have C2 := Lib.hid c2
    clear c2
    by_cases h61 : l[b]? = some 61
    · rw [if_pos h61]
      have hd : decide (l[b]? = some 61) = true := by simpa using h61
      rw [hd] at c3
      have hlt := (List.getElem?_eq_some_iff.1 h61).1
      have c4 := CB.out (b + 1) (by omega)
      rw [show ((b + 1 : Nat) : Int) = (b : Int) + 1 by omega] at c4
      have C3 := Lib.hid c3
      have C4 := Lib.hid c4
      have C5 := Lib.hid (CV.out (blankTo l (b + 1)))
      have hb0 : (0 : Int) ≤ (b : Int) := by omega
      have hb1 : (b : Int) ≤ 40000 := by omega
      clear c3 c4 CB CS CV HK h hW hln h61 hd hlt hok h1 h2 h3 hb
      generalize blankTo l (b + 1) = d at *
      generalize strictAt 60 l (d : Int) = v at *
      obtain ⟨vs, vn, ve⟩ := v
      unfold outV at C5
      simp only at C5
      go_enter Tryd.func71, Tryd.ntmps71
      go_wp2_with fail
      refine C1.out.mono ?_
      rintro e w1 ⟨rfl, hb⟩
      have J1 := Lib.hid (J0.out.kept hb)
      clear hb
      go_wp2_with fail
      refine (C2.out _ _ J1.out).mono ?_
      rintro e wq ⟨rfl, rfl⟩
      go_wp2_with fail
      refine (C3.out _ _ J1.out).mono ?_
      rintro e wq ⟨rfl, rfl⟩
      go_wp2_with fail
      refine (C4.out _ _ J1.out).mono ?_
      rintro e wq ⟨rfl, rfl⟩
      go_wp2_with fail
      refine (C5.out _ _ J1.out).mono ?_
      rintro e w2 ⟨rfl, hb⟩
      have J2 := Lib.hid (J1.out.kept hb)
      clear hb
      have JF := Lib.hid (J2.out.row #[.string ⟨s.toArray⟩, .string ⟨vs.toArray⟩])
      go_wp2_with (refine wpList_store_row rfl _ _ _ rfl w.heap.size #[.string ⟨s.toArray⟩, .string ⟨vs.toArray⟩] rfl rfl _ _ J2.out.2 (by kernel_rfl) rfl (by kernel_rfl) ?_)
      (try simp only [Exit.inBlock, Exit.then])
      exact bodyPost_ret (results_c3 rfl _ _ w.heap.size _ _ _ _ rfl JF.out.2 HU.out.2 rfl HU.out.1) rfl ⟨rfl, JF.out.1⟩
    · rw [if_neg h61]
      have hd : decide (l[b]? = some 61) = false := by simpa using h61
      rw [hd] at c3
      have C3 := Lib.hid c3
      clear c3 CB CS CV HK h hW hln h61 hd hok h1 h2 h3 hb
      go_enter Tryd.func71, Tryd.ntmps71
      go_wp2_with fail
      refine C1.out.mono ?_
      rintro e w1 ⟨rfl, hb⟩
      have J1 := Lib.hid (J0.out.kept hb)
      clear hb
      go_wp2_with fail
      refine (C2.out _ _ J1.out).mono ?_
      rintro e wq ⟨rfl, rfl⟩
      go_wp2_with fail
      refine (C3.out _ _ J1.out).mono ?_
      rintro e wq ⟨rfl, rfl⟩
      have JF := Lib.hid (J1.out.row #[.string ⟨#[]⟩, .string ⟨#[]⟩])
      go_wp2_with (refine wpList_store_row rfl _ _ _ rfl w.heap.size #[.string ⟨#[]⟩, .string ⟨#[]⟩] rfl rfl _ _ J1.out.2 (by kernel_rfl) rfl (by kernel_rfl) ?_)
      (try simp only [Exit.inBlock, Exit.then])
      exact bodyPost_ret (results_c3 rfl _ _ w.heap.size _ _ _ _ rfl JF.out.2 HU.out.2 rfl HU.out.1) rfl ⟨rfl, JF.out.1⟩
  · rw [if_neg he]
    have hei : ((e : Int) == 0) = false := by simp; omega
    clear CB CS CV HK h hW hln hok he
    go_enter Tryd.func71, Tryd.ntmps71
    go_wp2_with fail
    refine C1.out.mono ?_
    rintro e w1 ⟨rfl, hb⟩
    have J1 := Lib.hid (J0.out.kept hb)
    clear hb
    have JF := Lib.hid (J1.out.row #[.string ⟨#[]⟩, .string ⟨#[]⟩])
    go_wp2_with (refine wpList_store_row rfl _ _ _ rfl w.heap.size #[.string ⟨#[]⟩, .string ⟨#[]⟩] rfl rfl _ _ J1.out.2 (by kernel_rfl) rfl (by kernel_rfl) ?_)
    (try simp only [Exit.inBlock, Exit.then])
    exact bodyPost_ret (results_c3 rfl _ _ w.heap.size _ _ _ _ rfl JF.out.2 HU.out.2 rfl HU.out.1) rfl ⟨rfl, JF.out.1⟩
end Go.Proofs.YtmclngahdklfkaaDoor
/- What a call owns: rows of pairs, a map of names. -/
namespace Go.Proofs.YtmclngahdklfkaaDoor
open Go.ChangeShapes Go.WideShapes Go.ChangeAt Go.RowKit
set_option linter.unusedVariables false
theorem lawS : Go.Maps.Keyed Tryd.prog 9 := Go.Maps.string_keyed Tryd.underlying9
theorem zeroI (w : World) : (zeroValue 3).run Tryd.prog w = .ok (.int .i64 0) w := by kernel_rfl
theorem info_pair : ∃ i, Tryd.prog.info? 99 = some i ∧ i.zero = some (.agg #[.string ⟨#[]⟩, .string ⟨#[]⟩]) ∧ i.size = 2 ∧ i.bytes = 32 := by
  obtain ⟨i, h1, h2, h3, h4⟩ := info_parts (show (Tryd.prog.info? 99).map (fun i => (i.zero, i.size, i.bytes)) = some (some (.agg #[.string ⟨#[]⟩, .string ⟨#[]⟩]), 2, 32) by kernel_rfl)
  exact ⟨i, h1, h2, h3, h4⟩
theorem cell_new2 (w : World) (u1 u2 : Value) (T : TypeId) : ∀ (j : Nat) (v : Value), [u1, u2][j]? = some v → (w.alloc (.cells #[u1, u2] T)).cell? ((⟨w.heap.size, 0, none⟩ : Addr).add j) = some v := by
  intro j v hv
  match j with
  | 0 => simp at hv; subst hv; simp [Addr.add]
  | 1 => simp at hv; subst hv; rw [addr_add, cell_of _ (hp_new _ _)]; rfl
  | j + 2 => simp at hv
/-- 'out = append(out, u)' onto a row of the call's own, the elements of two cells each. -/
theorem wpList_app2 {P : Program} {ops : Array Oper} {rest : List Oper} {o : Oper} {a : Act} {Q : Exit → Act → World → Prop} {w : World} (hgd : o.guard = none) (s x : Operand) (t e : TypeId)
    (ho : o.op = .call { callee := .builtin .append, args := #[s, x], argTypes := #[t, t] }) (z : Value) (bytes : Nat) (ht : P.underlying t = some (.slice e))
    (hi : ∃ i, P.info? e = some i ∧ i.zero = some z ∧ i.size = 2 ∧ i.bytes = bytes) (hzs : z.cells.size = 2)
    (base : Nat) (v : Value) (n : Nat) (xs : List Value) (hs : a.eval s = v) (hown : w.ownsRow base e 2 v n xs) (u1 u2 : Value) (hx : a.eval x = .slice (some ⟨w.heap.size, 0, none⟩) 1 1)
    (h1 : u1.oneCell' = true) (h2 : u2.oneCell' = true) (hn : n ≤ 1000000000) (hby : bytes ≤ 1000) (hbase : base ≤ w.heap.size)
    (h : ∀ v' w', w'.ownsRow base e 2 v' (n + 1) (xs ++ [u1, u2]) → (w.alloc (.cells #[u1, u2] e)).grownBy w' v.ownBlock → wpList P ops Q rest (a.put o.dst v') w') : wpList P ops Q (o :: rest) a (w.alloc (.cells #[u1, u2] e)) := by
  obtain ⟨i, hi, hz, hsz, hbt⟩ := hi
  refine wpList_append_own _ hgd s x t ho base e i z 2 bytes ht hi hz hsz hbt hzs (by decide) v n xs hs (hown.alloc _) ⟨w.heap.size, 0, none⟩ 1 1 [u1, u2] hx rfl (cell_new2 w u1 u2 e) (by intro u hu; simp at hu; rcases hu with rfl | rfl <;> assumption) (by unfold maxLen; omega) ?_ (by simp; omega) fun v' w' hown' hgrow _ => h v' w' hown' hgrow
  have : (n + 1) * bytes ≤ 1000000001 * 1000 := Nat.mul_le_mul (by omega) hby
  omega
theorem ownsRow_keep {w w' : World} {base : Nat} {e : TypeId} {c n : Nat} {v : Value} {xs : List Value} (h : w.ownsRow base e c v n xs) (hk : ∀ g, base ≤ g → g < w.heap.size → w'.heap[g]? = w.heap[g]?) : w'.ownsRow base e c v n xs := by
  obtain ⟨hl, h2 | ⟨g, cap, cur, hv, hg, hh, r⟩⟩ := h
  · exact ⟨hl, Or.inl h2⟩
  · exact ⟨hl, Or.inr ⟨g, cap, cur, hv, hg, (hk g hg (lt_of hh)).trans hh, r⟩⟩
theorem ownsRow_lt {w : World} {base : Nat} {e : TypeId} {c n : Nat} {v : Value} {xs : List Value} (h : w.ownsRow base e c v n xs) (b : Nat) (hb : b < base) : some b ≠ v.ownBlock := by
  obtain ⟨hl, ⟨hv, _⟩ | ⟨g, cap, cur, hv, hg, hh, r⟩⟩ := h
  · rw [hv]; simp [Value.ownBlock]
  · rw [hv]; simp [Value.ownBlock]; omega
/-- The names met so far, in the map at block b. -/
def Seen (w : World) (b n : Nat) (acc : List PairL) : Prop := ∃ D : DataW Unit, w.ownsMap Tryd.prog 9 (Go.plainElem Tryd.prog 3) b n D ∧ ∀ s : List UInt8, D.atKey (.string s) (.lit (.int .i64 0)) = .lit (.int .i64 (if hasN acc s then 1 else 0))
theorem ownsMap_keep {H : Type} {w w' : World} {k : TypeId} {R : Value → Option (DataW H × List MemPlace)} {b n : Nat} {D : DataW H} (h : w.ownsMap Tryd.prog k R b n D) (hk : w'.heap[b]? = w.heap[b]?) : w'.ownsMap Tryd.prog k R b n D := by
  obtain ⟨es, clock, hb, r⟩ := h
  exact ⟨es, clock, hk.trans hb, r⟩
theorem ownsMap_is {H : Type} {w : World} {k : TypeId} {R : Value → Option (DataW H × List MemPlace)} {b n : Nat} {D : DataW H} (h : w.ownsMap Tryd.prog k R b n D) : Go.Maps.IsMap D := by
  obtain ⟨es, clock, hb, _, _, rfl⟩ := h
  exact ⟨_, rfl⟩
theorem Seen.start (w : World) : Seen (w.alloc (.map #[] 0)) w.heap.size 0 [] := ⟨.map [], World.ownsMap_made _ _ _ _, fun s => rfl⟩
theorem seen_snoc {D : DataW Unit} {acc : List PairL} {p : PairL} (hi : Go.Maps.IsMap D) (h : ∀ s : List UInt8, D.atKey (.string s) (.lit (.int .i64 0)) = .lit (.int .i64 (if hasN acc s then 1 else 0))) (hp : hasN acc p.1 = false) :
    ∀ s : List UInt8, (D.put (.string p.1) (.lit (.int .i64 1))).atKey (.string s) (.lit (.int .i64 0)) = .lit (.int .i64 (if hasN (acc ++ [p]) s then 1 else 0)) := by
  intro s
  rw [hasN_snoc]
  by_cases hs : p.1 = s
  · subst hs
    rw [Go.Maps.atKey_put_same hi (by simp [WideAt.IsKeyLit])]
    simp
  · rw [Go.Maps.atKey_put_other (by simpa using fun e => hs e.symm), h]
    simp [hs]
end Go.Proofs.YtmclngahdklfkaaDoor
/- narthex/tag.Pairs -/
namespace Go.Proofs.YtmclngahdklfkaaDoor
open Go.ChangeShapes Go.WideShapes Go.ChangeAt Go.RowKit
set_option linter.unusedVariables false
/-- What attributes' reading leaves: the row, the place behind, the error. -/
def PairsPost (o : List PairL × Nat × Nat) (w : World) (e : Ending) (w' : World) : Prop :=
  ∃ A n c, e = .returned (.tuple #[.slice A n c, .int .i64 (o.2.1 : Int), .int .i64 (o.2.2 : Int)]) ∧ PRd w' w'.heap.size A n c o.1 ∧ Below w.heap.size w w' ∧ ∀ b i, A = some ⟨b, i, none⟩ → w.heap.size ≤ b
theorem PairsPost.bad {w w' : World} {e : Ending} {x : Nat} (he : e = .returned (.tuple #[.slice none 0 0, .int .i64 0, .int .i64 (x : Int)])) (hb : Below w.heap.size w w') : PairsPost ([], 0, x) w e w' :=
  ⟨none, 0, 0, he, PRd.nilR _ _, hb, fun b i h => by cases h⟩
theorem PairsPost.good {w w' : World} {e : Ending} {acc : List PairL} {t : Nat} {v : Value} {n base : Nat} (hown : w'.ownsRow base 99 2 v n (cellsP acc)) (he : e = .returned (.tuple #[v, .int .i64 (t : Int), .int .i64 0])) (hb : Below w.heap.size w w') (hbase : w.heap.size ≤ base) : PairsPost (acc, t, 0) w e w' := by
  have hl := fun b hb => ownsRow_lt hown b hb
  obtain ⟨A, c, rfl, hr⟩ := PRd.ofOwn hown
  refine ⟨A, n, c, he, hr, hb, fun b i h => ?_⟩
  subst h
  rcases Nat.lt_or_ge b base with h' | h'
  · exact absurd rfl (hl b h')
  · omega
theorem PRd.move {w w' : World} {B B' n cap : Nat} {A : Option Addr} {ps : List PairL} (h : PRd w B A n cap ps) (hB : B ≤ B') (hk : ∀ b i, A = some ⟨b, i, none⟩ → b < B → w'.heap[b]? = w.heap[b]?) : PRd w' B' A n cap ps :=
  ⟨h.len, h.le, h.fit, h.nil, fun h0 => by
    obtain ⟨b, o, e, hb, hc⟩ := h.at_ h0
    have hh := hk b o e hb
    have hcell : ∀ j, w'.cell? ⟨b, j, none⟩ = w.cell? ⟨b, j, none⟩ := fun j => by unfold World.cell?; rw [hh]
    exact ⟨b, o, e, by omega, fun i p hp => ⟨(hcell _).trans (hc i p hp).1, (hcell _).trans (hc i p hp).2⟩⟩⟩
theorem stop_eq {l : List UInt8} {i t : Nat} (h : i = t) : stopB l i t = true := by unfold stopB; simp [h]
theorem stop_end {l : List UInt8} {i t : Nat} (h : l[i]? = none) : stopB l i t = true := by unfold stopB; rw [h]; simp
theorem stop_at {l : List UInt8} {i t : Nat} {c : UInt8} (h : l[i]? = some c) (hc : c = 47 ∨ c = 62) : stopB l i t = true := by unfold stopB; rw [h]; rcases hc with rfl | rfl <;> simp
theorem stop_no {l : List UInt8} {i t : Nat} {c : UInt8} (h : l[i]? = some c) (h0 : i ≠ t) (h1 : c ≠ 47) (h2 : c ≠ 62) : stopB l i t = false := by unfold stopB; rw [h]; simp [h0, h1, h2]
/-- While attributes are read: below w all as it was; the map of names at w's end; the row behind it. -/
def PgJ (w wr : World) (v : Value) (acc : List PairL) : Prop :=
  Below w.heap.size w wr ∧ w.heap.size < wr.heap.size ∧ Seen wr w.heap.size acc.length acc ∧ wr.ownsRow (w.heap.size + 1) 99 2 v acc.length (cellsP acc)
theorem PgJ.kept {w wr w' : World} {v : Value} {acc : List PairL} (h : PgJ w wr v acc) (hb : Below wr.heap.size wr w') : PgJ w w' v acc := by
  obtain ⟨h1, h2, ⟨D, h3, h3'⟩, h4⟩ := h
  exact ⟨h1.trans (hb.mono h1.size), by have := hb.size; omega, ⟨D, ownsMap_keep h3 (hb.block _ h2), h3'⟩, ownsRow_keep h4 fun g _ hg => hb.block g hg⟩
theorem PgJ.start (w : World) : PgJ w (w.alloc (.map #[] 0)) (.slice none 0 0) [] :=
  ⟨(Below.refl _ _).alloc (Nat.le_refl _) _, by simp, Seen.start w, rfl, Or.inl ⟨rfl, rfl⟩⟩
/-- A name counted. -/
theorem PgJ.count {w wr w' : World} {v : Value} {acc : List PairL} (h : PgJ w wr v acc) (hb : wr.grownBy w' (some w.heap.size)) : Below w.heap.size w w' ∧ w.heap.size < w'.heap.size ∧ w'.ownsRow (w.heap.size + 1) 99 2 v acc.length (cellsP acc) :=
  ⟨h.1.grown hb h.1.size (fun j hj => by cases hj; exact Nat.le_refl _), by have := hb.size; have := h.2.1; omega, ownsRow_keep h.2.2.2 fun g hg hl => hb.block g hl (by simp; omega)⟩
theorem PgJ.appended {w w3 w4 : World} {v v4 : Value} {acc : List PairL} {p : PairL} {cs : Array Value} {T : TypeId} (h1 : Below w.heap.size w w3) (h2 : w.heap.size < w3.heap.size) (hs : Seen w3 w.heap.size (acc ++ [p]).length (acc ++ [p])) (ho : w3.ownsRow (w.heap.size + 1) 99 2 v acc.length (cellsP acc))
    (hn : w4.ownsRow (w.heap.size + 1) 99 2 v4 (acc ++ [p]).length (cellsP (acc ++ [p]))) (hg : (w3.alloc (.cells cs T)).grownBy w4 v.ownBlock) : PgJ w w4 v4 (acc ++ [p]) := by
  have hsz := hg.size
  simp at hsz
  obtain ⟨D, hm, hD⟩ := hs
  refine ⟨(h1.alloc h1.size (.cells cs T)).grown hg (by simp; omega) fun k hk => ?_, by omega, ⟨D, ownsMap_keep hm ?_, hD⟩, hn⟩
  · have := (ho.lt k hk).1
    omega
  · rw [hg.block w.heap.size (by simp; omega) (ownsRow_lt ho w.heap.size (by omega)), Below.heap_alloc _ _ _ h2]
set_option maxRecDepth 100000 in
set_option maxHeartbeats 8000000 in
theorem tagPairs_in (A : Option Addr) (n cap : Nat) (l : List UInt8) (k : Nat) (w : World) (h : Byt w w.heap.size A n cap l) (hW : W10 w) (hm : n ≤ 40000) (hk : k ≤ n) :
    Calls Tryd.prog 51 #[.slice A n cap, .int .i64 k] w fun e w' => PairsPost (pairsOut l k) w e w' := by
  have hln := h.length
  have HK : Hid (∀ W v acc, PgJ w W v acc → Byt W W.heap.size A n cap l ∧ W10 W) := Lib.hid fun W v acc hJ => ⟨(h.below hJ.1).more hJ.1.size, hW.below hJ.1⟩
  have CB : Hid (∀ t, t ≤ n → ∀ W v acc, PgJ w W v acc → Calls Tryd.prog 28 #[.slice A n cap, .int .i64 (t : Int)] W fun e w' => e = .returned (.int .i64 (blankTo l t)) ∧ W = w') := Lib.hid fun t ht W v acc hb => blanks_c A n cap l t _ W (HK.out W v acc hb).1 (by omega) ht
  have CP : Hid (∀ t : Nat, t ≤ n → ∀ W v acc, PgJ w W v acc → Calls Tryd.prog 71 #[.slice A n cap, .int .i64 (t : Int)] W fun e w' => e = .returned (tpairV (pairOut l t)) ∧ Below W.heap.size W w') := Lib.hid fun t ht W v acc hb => tagPair_c A n cap l t W (HK.out W v acc hb).1 (HK.out W v acc hb).2 hm ht
  have HLn := Lib.hid hln
  have HKn := Lib.hid (And.intro hm hk)
  have HBy : Hid (Byt w w.heap.size A n cap l) := Lib.hid h
  have hk' : ¬ (n : Int) < (k : Int) := by omega
  have hk0 : ¬ (k : Int) < 0 := by omega
  have hmm := @run_makeMap Tryd.prog
  have hkn : ¬ n < k := by omega
  clear h hW hln hk hm HK
  go_enter Tryd.func51, Tryd.ntmps51
  go_wp2_with fail
  go_step3
  go_wp2_with fail
  go_step3
  go_wp2_with fail
  go_loopg [1, 7] (n) (fun g i v wr => ∃ (t : Nat) (acc : List PairL) (f : Nat), i = .int .i64 (t : Int) ∧ t ≤ n ∧ Hid (g = f) ∧ Hid (n ≤ f + t) ∧ Hid (acc.length ≤ t) ∧ Hid (pairsOut l k = pairsR l (f + 1) acc t) ∧ Hid (PgJ w wr v acc))
  case atStart => exact ⟨k, [], n, rfl, HKn.out.2, Lib.hid rfl, Lib.hid (by omega), Lib.hid (Nat.zero_le _), Lib.hid (by unfold pairsOut; rw [HLn.out]), Lib.hid (PgJ.start w)⟩
  case round =>
    obtain ⟨t, acc, f, rfl, ht, hgf, hg, hal, HE, HJ⟩ := hrel
    have hm := HKn.out.1
    have ht0 : (0 : Int) ≤ (t : Int) := by omega
    have htb : (t : Int) ≤ 40000 := by omega
    have c1 := CB.out t ht _ _ _ HJ.out
    have hbl := blankTo_le l t (by rw [HLn.out]; exact ht)
    rw [HLn.out] at hbl
    have hst := fun (h : stopB l (blankTo l t) t = true) => HE.out.trans (pairs_stop (f := _) (acc := acc) h)
    have hbd := fun (h : stopB l (blankTo l t) t = false) (e : Nat) (he : (pairOut l (blankTo l t)).2.2 = e) (h0 : e ≠ 0) => HE.out.trans (pairs_bad (f := _) (acc := acc) h he h0)
    have htw := fun (h : stopB l (blankTo l t) t = false) he h0 => HE.out.trans (pairs_twice (f := _) (acc := acc) h he h0)
    have hmo := fun (h : stopB l (blankTo l t) t = false) he h0 => HE.out.trans (pairs_more (f := _) (acc := acc) h he h0)
    generalize blankTo l t = b at *
    have hb0 : (0 : Int) ≤ (b : Int) := by omega
    have hb1 : (b : Int) ≤ 40000 := by omega
    have C1 := Lib.hid c1
    clear c1
    by_cases hbt : b = t
    · have hE := Lib.hid (hst (stop_eq hbt))
      have hbe : ((b : Int) == (t : Int)) = true := by simp; omega
      clear hst hbd htw hmo hmm hbt
      go_wp2_with fail
      refine (C1.out).mono ?_
      rintro e wq ⟨rfl, rfl⟩
      go_wp2
      go_ret3
      rw [hE.out]
      exact PairsPost.good HJ.out.2.2.2 rfl HJ.out.1 (Nat.le_succ _)
    · have hbe : ((b : Int) == (t : Int)) = false := by simp; omega
      by_cases hbn : b < n
      · obtain ⟨bb, o, c, rfl, hbB, hc, hcell⟩ := (HBy.out.below HJ.out.1).cell hbn
        have hbne : ((b : Int) == (n : Int)) = false := by simp; omega
        have c0 : (0 : Int) ≤ (c.toNat : Int) := by omega
        have c9 : (c.toNat : Int) ≤ 255 := by have := c.toNat_lt; omega
        by_cases h47 : c = 47
        · have hE := Lib.hid (hst (stop_at hc (Or.inl h47)))
          subst h47
          have hcell' : wr.cell? ⟨bb, o + b, none⟩ = some (.int .u8 47) := hcell
          clear hst hbd htw hmo hmm hbt hc hcell
          go_wp2_with fail
          refine (C1.out).mono ?_
          rintro e wq ⟨rfl, rfl⟩
          go_wp2
          go_ret3
          rw [hE.out]
          exact PairsPost.good HJ.out.2.2.2 rfl HJ.out.1 (Nat.le_succ _)
        · by_cases h62 : c = 62
          · have hE := Lib.hid (hst (stop_at hc (Or.inr h62)))
            subst h62
            have hcell' : wr.cell? ⟨bb, o + b, none⟩ = some (.int .u8 62) := hcell
            clear hst hbd htw hmo hmm hbt hc hcell
            go_wp2_with fail
            refine (C1.out).mono ?_
            rintro e wq ⟨rfl, rfl⟩
            go_wp2
            go_ret3
            rw [hE.out]
            exact PairsPost.good HJ.out.2.2.2 rfl HJ.out.1 (Nat.le_succ _)
          · have hsn := stop_no (t := t) hc hbt h47 h62
            have n47 : ((c.toNat : Int) == 47) = false := by
              have : c.toNat ≠ 47 := fun e => h47 (UInt8.toNat_inj.1 e)
              simp; omega
            have n62 : ((c.toNat : Int) == 62) = false := by
              have : c.toNat ≠ 62 := fun e => h62 (UInt8.toNat_inj.1 e)
              simp; omega
            have c2 := CP.out b (by omega) _ _ _ HJ.out
            have hpo := pairOut_ok l b (by rw [HLn.out]; omega)
            rw [HLn.out] at hpo
            clear hst hc h47 h62 hbt
            generalize pairOut l b = p at *
            obtain ⟨⟨s, pv⟩, nx, e⟩ := p
            unfold tpairV at c2
            simp only at c2 hpo hbd htw hmo
            have C2 := Lib.hid c2
            clear c2
            by_cases he : e = 0
            · subst he
              obtain ⟨hp1, hp2, hp3, hp4⟩ := hpo rfl
              have htx : t < nx := by omega
              have hkey : keyOf Tryd.prog 9 (.string ⟨s.toArray⟩) = some (.string s) := by
                have := Go.WideMaps.keyOf_string_mk (P := Tryd.prog) Tryd.underlying9 (s := ⟨s.toArray⟩) (by simp [ByteArray.size]; unfold maxLen; omega)
                simpa using this
              have HKEY := Lib.hid hkey
              cases hh : hasN acc s with
              | true =>
                have hE := Lib.hid (htw hsn rfl hh)
                clear hbd htw hmo hmm hsn
                go_wp2_with fail
                refine (C1.out).mono ?_
                rintro e wq ⟨rfl, rfl⟩
                go_wp2_with fail
                refine C2.out.mono ?_
                rintro e1 w1 ⟨rfl, hb⟩
                have J1 := Lib.hid (HJ.out.kept hb)
                clear hb
                have J2 := Lib.hid (J1.out.kept ((Below.refl _ w1).alloc (Nat.le_refl _) (.cells #[.string ⟨s.toArray⟩, .string ⟨pv.toArray⟩] 99)))
                have hq := hp_new w1 (.cells #[.string ⟨s.toArray⟩, .string ⟨pv.toArray⟩] 99)
                have z0 : (w1.alloc (.cells #[.string ⟨s.toArray⟩, .string ⟨pv.toArray⟩] 99)).cell? ⟨w1.heap.size, 0, none⟩ = some (.string ⟨s.toArray⟩) := cell_of 0 hq
                obtain ⟨D, hown, hD⟩ := J2.out.2.2.1
                have HD : Hid (∀ c : Int, D.atKey (.string s) (.lit (.int .i64 0)) = .lit (.int .i64 c) → c = 1) := Lib.hid fun c hc => by
                  rw [hD s, hh] at hc
                  simp at hc
                  exact hc.symm
                have HI := Lib.hid (ownsMap_is hown)
                clear hD hh
                go_wp2_with (first
                  | (at_lookup; refine wpList_lookup_own_int _ rfl _ _ 97 rfl 9 3 .i64 lawS Tryd.underlying97 Tryd.underlying3 (zeroI _) w.heap.size acc.length _ rfl hown _ _ rfl HKEY.out ?_; intro c hat hwc; obtain rfl := HD.out c hat)
                  | (at_mapUpdate; refine wpList_mapUpdate_own _ rfl _ _ _ 97 rfl 9 3 lawS Tryd.underlying97 _ w.heap.size acc.length _ rfl hown (by have := hal.out; unfold maxLen; omega) _ _ _ rfl rfl HKEY.out _ [] (plainElem_int Tryd.underlying3 (by decide)) ?_))
                intro w3 hown3 hgrow3
                have J3 := Lib.hid (J2.out.count hgrow3)
                have z3 : w3.cell? ⟨w1.heap.size, 0, none⟩ = some (.string ⟨s.toArray⟩) := by
                  have := J1.out.2.1
                  rw [cell_of 0 ((hgrow3.block w1.heap.size (by simp) (by simp; omega)).trans hq)]; rfl
                have HD3 : Hid (∀ c : Int, (D.put (.string s) (.lit (.int .i64 2))).atKey (.string s) (.lit (.int .i64 0)) = .lit (.int .i64 c) → c = 2) := Lib.hid fun c hc => by
                  rw [Go.Maps.atKey_put_same HI.out (by simp [WideAt.IsKeyLit])] at hc
                  simp at hc
                  exact hc.symm
                clear hown hgrow3 z0 hq
                go_wp2_with (at_lookup; refine wpList_lookup_own_int _ rfl _ _ 97 rfl 9 3 .i64 lawS Tryd.underlying97 Tryd.underlying3 (zeroI _) w.heap.size (acc.length + 1) _ rfl hown3 _ _ rfl HKEY.out ?_; intro c hat hwc; obtain rfl := HD3.out c hat)
                go_ret3
                rw [hE.out]
                exact PairsPost.bad rfl J3.out.1
              | false =>
                have hE := Lib.hid (hmo hsn rfl hh)
                clear hbd htw hmo hmm hsn
                go_wp2_with fail
                refine (C1.out).mono ?_
                rintro e wq ⟨rfl, rfl⟩
                go_wp2_with fail
                refine C2.out.mono ?_
                rintro e1 w1 ⟨rfl, hb⟩
                have J1 := Lib.hid (HJ.out.kept hb)
                clear hb
                have J2 := Lib.hid (J1.out.kept ((Below.refl _ w1).alloc (Nat.le_refl _) (.cells #[.string ⟨s.toArray⟩, .string ⟨pv.toArray⟩] 99)))
                have hq := hp_new w1 (.cells #[.string ⟨s.toArray⟩, .string ⟨pv.toArray⟩] 99)
                have z0 : (w1.alloc (.cells #[.string ⟨s.toArray⟩, .string ⟨pv.toArray⟩] 99)).cell? ⟨w1.heap.size, 0, none⟩ = some (.string ⟨s.toArray⟩) := cell_of 0 hq
                obtain ⟨D, hown, hD⟩ := J2.out.2.2.1
                have HD : Hid (∀ c : Int, D.atKey (.string s) (.lit (.int .i64 0)) = .lit (.int .i64 c) → c = 0) := Lib.hid fun c hc => by
                  rw [hD s, hh] at hc
                  simp at hc
                  exact hc.symm
                have HI := Lib.hid (ownsMap_is hown)
                have HS := Lib.hid (seen_snoc (p := (s, pv)) HI.out hD hh)
                clear hD hh
                go_wp2_with (first
                  | (at_lookup; refine wpList_lookup_own_int _ rfl _ _ 97 rfl 9 3 .i64 lawS Tryd.underlying97 Tryd.underlying3 (zeroI _) w.heap.size acc.length _ rfl hown _ _ rfl HKEY.out ?_; intro c hat hwc; obtain rfl := HD.out c hat)
                  | (at_mapUpdate; refine wpList_mapUpdate_own _ rfl _ _ _ 97 rfl 9 3 lawS Tryd.underlying97 _ w.heap.size acc.length _ rfl hown (by have := hal.out; unfold maxLen; omega) _ _ _ rfl rfl HKEY.out _ [] (plainElem_int Tryd.underlying3 (by decide)) ?_))
                intro w3 hown3 hgrow3
                have J3 := Lib.hid (J2.out.count hgrow3)
                have hq3 : w3.heap[w1.heap.size]? = some (.cells #[.string ⟨s.toArray⟩, .string ⟨pv.toArray⟩] 99) := by
                  have := J1.out.2.1
                  exact (hgrow3.block w1.heap.size (by simp) (by simp; omega)).trans hq
                have z3 : w3.cell? ⟨w1.heap.size, 0, none⟩ = some (.string ⟨s.toArray⟩) := cell_of 0 hq3
                have z4 : w3.cell? ⟨w1.heap.size, 1, none⟩ = some (.string ⟨pv.toArray⟩) := cell_of 1 hq3
                have HD3 : Hid (∀ c : Int, (D.put (.string s) (.lit (.int .i64 1))).atKey (.string s) (.lit (.int .i64 0)) = .lit (.int .i64 c) → c = 1) := Lib.hid fun c hc => by
                  rw [Go.Maps.atKey_put_same HI.out (by simp [WideAt.IsKeyLit])] at hc
                  simp at hc
                  exact hc.symm
                have HSe : Hid (Seen w3 w.heap.size (acc ++ [(s, pv)]).length (acc ++ [(s, pv)])) := Lib.hid ⟨_, by rw [List.length_append]; exact hown3, HS.out⟩
                have hacc : acc.length ≤ 1000000000 := by have := hal.out; omega
                have hbase : w.heap.size + 1 ≤ w3.heap.size := J3.out.2.1
                clear hgrow3 z0 hq hown
                go_wp2_with (first
                  | (at_lookup; refine wpList_lookup_own_int _ rfl _ _ 97 rfl 9 3 .i64 lawS Tryd.underlying97 Tryd.underlying3 (zeroI _) w.heap.size (acc.length + 1) _ rfl hown3 _ _ rfl HKEY.out ?_; intro c hat hwc; obtain rfl := HD3.out c hat)
                  | (at_builtin; refine wpList_app2 rfl (.tmp 68) (.tmp 70) 25 99 rfl (.agg #[.string ⟨#[]⟩, .string ⟨#[]⟩]) 32 Tryd.underlying25 info_pair rfl (w.heap.size + 1) _ acc.length (cellsP acc) rfl J3.out.2.2 (.string ⟨s.toArray⟩) (.string ⟨pv.toArray⟩) rfl rfl rfl hacc (by decide) hbase ?_))
                intro v4 w4 hown4 hgrow4
                have J4 : Hid (PgJ w w4 v4 (acc ++ [(s, pv)])) := Lib.hid (PgJ.appended J3.out.1 J3.out.2.1 HSe.out J3.out.2.2 (by rw [cellsP_snoc, List.length_append]; exact hown4) hgrow4)
                clear hgrow4 hown4 HSe z3 z4 hq3
                go_wp2
                go_roundg (f - 1)
                case measure => have := hg.out; have := hgf.out; omega
                case rel => exact ⟨nx, acc ++ [(s, pv)], f - 1, rfl, by omega, Lib.hid rfl, Lib.hid (by have := hg.out; omega), Lib.hid (by have := hal.out; simp; omega), Lib.hid (by rw [hE.out, show f - 1 + 1 = f by have := hg.out; omega]), J4⟩
            · have hE := Lib.hid (hbd hsn e rfl he)
              have hei : ((e : Int) == 0) = false := by simp; omega
              clear hbd htw hmo hmm hsn hpo
              go_wp2_with fail
              refine (C1.out).mono ?_
              rintro e wq ⟨rfl, rfl⟩
              go_wp2_with fail
              refine C2.out.mono ?_
              rintro e1 w1 ⟨rfl, hb⟩
              have J1 := Lib.hid (HJ.out.kept hb)
              clear hb
              have J2 := Lib.hid (J1.out.kept ((Below.refl _ w1).alloc (Nat.le_refl _) (.cells #[.string ⟨s.toArray⟩, .string ⟨pv.toArray⟩] 99)))
              go_wp2
              go_ret3
              rw [hE.out]
              exact PairsPost.bad rfl J2.out.1
      · obtain rfl : b = n := by omega
        have hE := Lib.hid (hst (stop_end (by rw [List.getElem?_eq_none]; rw [HLn.out]; exact Nat.le_refl _)))
        have hbne : ((b : Int) == (b : Int)) = true := by simp
        clear hst hbd htw hmo hmm hbt
        go_wp2_with fail
        refine (C1.out).mono ?_
        rintro e wq ⟨rfl, rfl⟩
        go_wp2
        go_ret3
        rw [hE.out]
        exact PairsPost.good HJ.out.2.2.2 rfl HJ.out.1 (Nat.le_succ _)
end Go.Proofs.YtmclngahdklfkaaDoor
/- narthex/tag.begin, Close -/
namespace Go.Proofs.YtmclngahdklfkaaDoor
open Go.ChangeShapes Go.WideShapes Go.ChangeAt Go.RowKit
set_option linter.unusedVariables false
/-- What 'begin' reads: a mark and a name behind it. -/
def beginOut (p : List UInt8) (l : List UInt8) (k : Nat) : List UInt8 × Nat × Nat := if p.isPrefixOf (l.drop k) = true then nameOut l (k + p.length) else ([], 0, 7)
set_option maxRecDepth 100000 in
set_option maxHeartbeats 4000000 in
theorem tagBegin_in (A : Option Addr) (n cap : Nat) (l : List UInt8) (k : Nat) (p : List UInt8) (w : World) (h : Byt w w.heap.size A n cap l) (hW : W10 w) (hm : n ≤ 40000) (hk : k ≤ n) (hp0 : 0 < p.length) (hpl : p.length ≤ 100) :
    Calls Tryd.prog 30 #[.slice A n cap, .int .i64 k, .string ⟨p.toArray⟩] w fun e w' => e = .returned (outV (beginOut p l k)) ∧ Below w.heap.size w w' := by
  have hln := h.length
  have hk' : ¬ (n : Int) < (k : Int) := by omega
  have hk0 : (0 : Int) ≤ (k : Int) := by omega
  have hk1 : (k : Int) ≤ 40000 := by omega
  have hp1 : (p.length : Int) ≤ 100 := by omega
  have c1 := stands_c A n cap l k p _ w h (by omega) (by omega) hk
  unfold beginOut
  cases hp : p.isPrefixOf (l.drop k) with
  | true =>
    rw [if_pos rfl]
    rw [hp] at c1
    have hkp : k + p.length ≤ n := by
      rcases pre_len hp with e | e
      · rw [e] at hp0; cases hp0
      · omega
    have c2 := name_c A n cap l (k + p.length) w h hW.forms hW.tabs.n (by omega) hkp
    rw [show ((k + p.length : Nat) : Int) = (k : Int) + (p.length : Int) by omega] at c2
    generalize nameOut l (k + p.length) = m at *
    obtain ⟨s, nx, e⟩ := m
    have C1 := Lib.hid c1
    have C2 := Lib.hid c2
    clear c1 c2 h hW hln hp hkp
    unfold outV at *
    go_enter Tryd.func30, Tryd.ntmps30
    go_wp2_with fail
    refine (C1.out).mono ?_
    rintro e wq ⟨rfl, rfl⟩
    go_wp2_with fail
    refine C2.out.mono ?_
    rintro e w1 ⟨rfl, hb⟩
    have B1 := Lib.hid hb
    clear hb
    go_wp2
    go_ret3
    exact ⟨rfl, B1.out⟩
  | false =>
    rw [if_neg (by simp)]
    rw [hp] at c1
    have C1 := Lib.hid c1
    clear c1 h hW hln hp
    unfold outV
    go_enter Tryd.func30, Tryd.ntmps30
    go_wp2_with fail
    refine (C1.out).mono ?_
    rintro e wq ⟨rfl, rfl⟩
    go_wp2
    go_ret3
    exact ⟨rfl, Below.refl _ _⟩
theorem beginOut_e (p l : List UInt8) (k : Nat) : (beginOut p l k).2.2 = 0 → (beginOut p l k) = nameOut l (k + p.length) ∧ p.isPrefixOf (l.drop k) = true := by
  unfold beginOut
  split
  · rename_i h; exact fun _ => ⟨rfl, h⟩
  · intro h; cases h
set_option maxRecDepth 100000 in
set_option maxHeartbeats 4000000 in
theorem tagClose_in (A : Option Addr) (n cap : Nat) (l : List UInt8) (k : Nat) (w : World) (h : Byt w w.heap.size A n cap l) (hW : W10 w) (hm : n ≤ 40000) (hk : k ≤ n) :
    Calls Tryd.prog 17 #[.slice A n cap, .int .i64 k] w fun e w' => e = .returned (outV (closeOut l k)) ∧ Below w.heap.size w w' := by
  have hln := h.length
  have c1 := tagBegin_in A n cap l k [60, 47] w h hW hm hk (by simp) (by simp)
  have CB : Hid (∀ t, t ≤ n → ∀ W, Below w.heap.size w W → Calls Tryd.prog 28 #[.slice A n cap, .int .i64 (t : Int)] W fun e w' => e = .returned (.int .i64 (blankTo l t)) ∧ W = w') := Lib.hid fun t ht W hb => blanks_c A n cap l t _ W (h.below hb) (by omega) ht
  have CS : Hid (∀ t, t ≤ n → ∀ W, Below w.heap.size w W → Calls Tryd.prog 31 #[.slice A n cap, .int .i64 (t : Int), .string ⟨#[62]⟩] W fun e w' => e = .returned (.bool ([62].isPrefixOf (l.drop t))) ∧ W = w') := Lib.hid fun t ht W hb => stands_c A n cap l t [62] _ W (h.below hb) (by omega) (by simp) ht
  have hcl : closeOut l k = if (beginOut [60, 47] l k).2.2 ≠ 0 then ([], 0, (beginOut [60, 47] l k).2.2) else if [62].isPrefixOf (l.drop (blankTo l (beginOut [60, 47] l k).2.1)) = true then ((beginOut [60, 47] l k).1, blankTo l (beginOut [60, 47] l k).2.1 + 1, 0) else ([], 0, 7) := by
    unfold closeOut beginOut
    split <;> simp
  have hno : (beginOut [60, 47] l k).2.2 = 0 → (beginOut [60, 47] l k).2.1 ≤ n := fun h0 => by
    obtain ⟨h1, h2⟩ := beginOut_e [60, 47] l k h0
    rw [h1] at h0 ⊢
    have := pre_len h2
    simp only [List.length_cons, List.length_nil] at h0 ⊢ this
    rw [← hln]
    refine (nameOut_ok l (k + 2) ?_ h0).2.1
    rcases this with e | e
    · cases e
    · omega
  rw [hcl]
  clear hcl
  generalize beginOut [60, 47] l k = m at *
  obtain ⟨s, nx, e⟩ := m
  simp only at hno ⊢
  unfold outV at c1
  simp only at c1
  have C1 := Lib.hid c1
  clear c1
  by_cases he : e = 0
  · subst he
    have hnx := hno rfl
    rw [if_neg (by simp)]
    have c2 := CB.out nx hnx
    have hb := blankTo_le l nx (by omega)
    generalize blankTo l nx = b at *
    have c3 := CS.out b (by omega)
    have hb0 : (0 : Int) ≤ (b : Int) := by omega
    have hb1 : (b : Int) ≤ 40000 := by omega
    generalize [62].isPrefixOf (l.drop b) = r at *
    have C2 := Lib.hid c2
    have C3 := Lib.hid c3
    clear c2 c3 CB CS h hW hln hno hnx hb hm hk
    unfold outV
    cases r
    all_goals
      simp only [if_true, Bool.false_eq_true, if_false]
      go_enter Tryd.func17, Tryd.ntmps17
      go_wp2_with fail
      refine (C1.out).mono ?_
      rintro e w1 ⟨rfl, hb⟩
      have B1 := Lib.hid hb
      clear hb
      go_wp2_with fail
      refine (C2.out _ B1.out).mono ?_
      rintro e wq ⟨rfl, rfl⟩
      go_wp2_with fail
      refine (C3.out _ B1.out).mono ?_
      rintro e wq ⟨rfl, rfl⟩
      go_wp2
      go_ret3
      exact ⟨rfl, B1.out⟩
  · rw [if_pos he]
    have hei : ((e : Int) == 0) = false := by simp; omega
    clear CB CS h hW hln hno hm hk
    unfold outV
    go_enter Tryd.func17, Tryd.ntmps17
    go_wp2_with fail
    refine (C1.out).mono ?_
    rintro e w1 ⟨rfl, hb⟩
    have B1 := Lib.hid hb
    clear hb
    go_wp2
    go_ret3
    exact ⟨rfl, B1.out⟩
end Go.Proofs.YtmclngahdklfkaaDoor
/- narthex/tag.Open -/
namespace Go.Proofs.YtmclngahdklfkaaDoor
open Go.ChangeShapes Go.WideShapes Go.ChangeAt Go.RowKit
set_option linter.unusedVariables false
/-- .. and the attributes lie in memory made anew. -/
def OpenPostF (o : TagL × Nat × Nat) (w : World) (e : Ending) (w' : World) : Prop :=
  ∃ A n c, e = .returned (.tuple #[.agg #[.string ⟨o.1.name.toArray⟩, .slice A n c, .bool o.1.empty], .int .i64 (o.2.1 : Int), .int .i64 (o.2.2 : Int)]) ∧ PRd w' w'.heap.size A n c o.1.pairs ∧ Below w.heap.size w w' ∧ ∀ b i, A = some ⟨b, i, none⟩ → w.heap.size ≤ b
theorem setRow_at (w : World) (g k : Nat) (cs : Array Value) (h : k ≠ g) : (w.setRow g cs).heap[k]? = w.heap[k]? := setRow_other _ _ _ _ h
theorem open_eq (l : List UInt8) (k : Nat) : openOut l k = if (beginOut [60] l k).2.2 ≠ 0 then (noTag, 0, (beginOut [60] l k).2.2)
    else if (pairsOut l (beginOut [60] l k).2.1).2.2 ≠ 0 then (noTag, 0, (pairsOut l (beginOut [60] l k).2.1).2.2)
    else if [47, 62].isPrefixOf (l.drop (blankTo l (pairsOut l (beginOut [60] l k).2.1).2.1)) = true then
      (⟨(beginOut [60] l k).1, (pairsOut l (beginOut [60] l k).2.1).1, true⟩, blankTo l (pairsOut l (beginOut [60] l k).2.1).2.1 + 2, 0)
    else if [62].isPrefixOf (l.drop (blankTo l (pairsOut l (beginOut [60] l k).2.1).2.1)) = true then
      (⟨(beginOut [60] l k).1, (pairsOut l (beginOut [60] l k).2.1).1, false⟩, blankTo l (pairsOut l (beginOut [60] l k).2.1).2.1 + 1, 0)
    else (noTag, 0, 7) := by
  have hb : beginOut [60] l k = if l[k]? = some 60 then nameOut l (k + 1) else ([], 0, 7) := by
    unfold beginOut
    rw [pre_one]
    by_cases h : l[k]? = some 60 <;> simp [h]
  rw [hb]
  unfold openOut
  by_cases h : l[k]? = some 60
  · simp only [if_pos h]
  · simp only [if_neg h]
    simp
set_option maxRecDepth 100000 in
set_option maxHeartbeats 8000000 in
theorem tagOpenF_in (A : Option Addr) (n cap : Nat) (l : List UInt8) (k : Nat) (w : World) (h : Byt w w.heap.size A n cap l) (hW : W10 w) (hm : n ≤ 40000) (hk : k ≤ n) :
    Calls Tryd.prog 32 #[.slice A n cap, .int .i64 k] w fun e w' => OpenPostF (openOut l k) w e w' := by
  have hln := h.length
  have hJ := CJ.start 59 w #[.string ⟨#[]⟩, .slice none 0 0, .bool false]
  have hi : (Tryd.prog.info? 59).map (·.size) = some 3 := by kernel_rfl
  obtain ⟨d, hu⟩ := isStruct_of (P := Tryd.prog) (t := 59) (by kernel_rfl)
  have HU := Lib.hid (And.intro hi hu)
  have HK : Hid (∀ W rs, CJ 59 w W rs → Byt W W.heap.size A n cap l ∧ W10 W) := Lib.hid fun W rs hJ => ⟨(h.below hJ.1).more hJ.1.size, hW.below hJ.1⟩
  have c1 := tagBegin_in A n cap l k [60] _ (HK.out _ _ hJ).1 (HK.out _ _ hJ).2 hm hk (by simp) (by simp)
  have CP : Hid (∀ t : Nat, t ≤ n → ∀ W rs, CJ 59 w W rs → Calls Tryd.prog 51 #[.slice A n cap, .int .i64 (t : Int)] W fun e w' => PairsPost (pairsOut l t) W e w') := Lib.hid fun t ht W rs hb => tagPairs_in A n cap l t W (HK.out W rs hb).1 (HK.out W rs hb).2 hm ht
  have CB : Hid (∀ t, t ≤ n → ∀ W rs, CJ 59 w W rs → Calls Tryd.prog 28 #[.slice A n cap, .int .i64 (t : Int)] W fun e w' => e = .returned (.int .i64 (blankTo l t)) ∧ W = w') := Lib.hid fun t ht W rs hb => blanks_c A n cap l t _ W (HK.out W rs hb).1 (by omega) ht
  have CS : Hid (∀ t, t ≤ n → ∀ p : List UInt8, p.length ≤ 100 → ∀ W rs, CJ 59 w W rs → Calls Tryd.prog 31 #[.slice A n cap, .int .i64 (t : Int), .string ⟨p.toArray⟩] W fun e w' => e = .returned (.bool (p.isPrefixOf (l.drop t))) ∧ W = w') := Lib.hid fun t ht p hp W rs hb => stands_c A n cap l t p _ W (HK.out W rs hb).1 (by omega) (by omega) ht
  have hno : (beginOut [60] l k).2.2 = 0 → (beginOut [60] l k).2.1 ≤ n := fun h0 => by
    obtain ⟨h1, h2⟩ := beginOut_e [60] l k h0
    rw [h1] at h0 ⊢
    have := pre_len h2
    simp only [List.length_cons, List.length_nil] at h0 ⊢ this
    rw [← hln]
    refine (nameOut_ok l (k + 1) ?_ h0).2.1
    rcases this with e | e
    · cases e
    · omega
  have hpo := fun t (ht : t ≤ n) => pairsOut_le l t (by omega)
  rw [hln] at hpo
  rw [open_eq]
  have J0 := Lib.hid hJ
  clear hi hu hJ h hW
  generalize beginOut [60] l k = m at *
  obtain ⟨s, nx, e⟩ := m
  simp only at hno ⊢
  unfold outV at c1
  simp only at c1
  have C1 := Lib.hid c1
  clear c1
  by_cases he : e = 0
  · subst he
    have hnx := hno rfl
    rw [if_neg (by simp)]
    have C2 := Lib.hid (CP.out nx hnx)
    have hpn := hpo nx hnx
    generalize pairsOut l nx = ps at *
    obtain ⟨ps, px, pe⟩ := ps
    simp only at hpn ⊢
    by_cases hpe : pe = 0
    · subst hpe
      rw [if_neg (by simp)]
      have c3 := CB.out px hpn
      have hb := blankTo_le l px (by omega)
      generalize blankTo l px = b at *
      have c4 := CS.out b (by omega) [47, 62] (by simp)
      have c5 := CS.out b (by omega) [62] (by simp)
      have hb0 : (0 : Int) ≤ (b : Int) := by omega
      have hb1 : (b : Int) ≤ 40000 := by omega
      generalize [47, 62].isPrefixOf (l.drop b) = r1 at *
      generalize [62].isPrefixOf (l.drop b) = r2 at *
      have C3 := Lib.hid c3
      have C4 := Lib.hid c4
      have C5 := Lib.hid c5
      clear c3 c4 c5 CB CS CP HK hln hno hpo hnx hpn hb hm hk
      cases r1 with
      | true =>
        simp only [if_true]
        go_enter Tryd.func32, Tryd.ntmps32
        go_wp2_with fail
        refine C1.out.mono ?_
        rintro e w1 ⟨rfl, hb⟩
        have J1 := Lib.hid (J0.out.kept hb)
        clear hb
        go_wp2_with fail
        refine (C2.out _ _ J1.out).mono ?_
        rintro e w2 ⟨PA, pn, pc, rfl, hpr, hb, hlo⟩
        have J2 := J1.out.kept hb
        have HP := Lib.hid (And.intro hpr (fun b i h => Nat.lt_of_lt_of_le (lt_of J1.out.2) (hlo b i h)))
        have hq := hp_new w2 (.cells #[.string ⟨s.toArray⟩, .slice PA pn pc, .bool false] 59)
        have hwl := lt_of J2.2
        have hwl1 := lt_of J1.out.2
        have J3 := Lib.hid (J2.kept ((Below.refl _ w2).alloc (Nat.le_refl _) (.cells #[.string ⟨s.toArray⟩, .slice PA pn pc, .bool false] 59)))
        have J4 := Lib.hid (J2.kept ((Below.refl _ w2).alloc (Nat.le_refl _) (.cells #[.string ⟨s.toArray⟩, .slice PA pn pc, .bool true] 59)))
        have z2 : (w2.alloc (.cells #[.string ⟨s.toArray⟩, .slice PA pn pc, .bool false] 59)).cell? ⟨w2.heap.size, 2, none⟩ = some (.bool false) := cell_of 2 hq
        have y2 := free_of 2 hq
        have hq4 := Lib.hid (hp_new w2 (.cells #[.string ⟨s.toArray⟩, .slice PA pn pc, .bool true] 59))
        have JF := Lib.hid (J4.out.row #[.string ⟨s.toArray⟩, .slice PA pn pc, .bool true])
        clear hpr hb hlo J2 hq hwl1
        go_wp2_with fail
        refine (C3.out _ _ J3.out).mono ?_
        rintro e wq ⟨rfl, rfl⟩
        go_wp2_with fail
        refine (C4.out _ _ J3.out).mono ?_
        rintro e wq ⟨rfl, rfl⟩
        go_wp2_with (first | (refine wpList_load_row rfl _ _ rfl w2.heap.size rfl _ _ _ _ hq4.out HU.out.2 rfl HU.out.1 ?_) | (refine wpList_store_row rfl _ _ _ rfl w.heap.size #[.string ⟨s.toArray⟩, .slice PA pn pc, .bool true] rfl rfl _ _ J4.out.2 (by kernel_rfl) rfl (by kernel_rfl) ?_))
        (try simp only [Exit.inBlock, Exit.then])
        refine bodyPost_ret (results_c3 rfl _ _ w.heap.size _ _ _ _ rfl JF.out.2 HU.out.2 rfl HU.out.1) rfl ⟨PA, pn, pc, rfl, HP.out.1.move ?_ ?_, JF.out.1, fun b i h => Nat.le_of_lt (HP.out.2 b i h)⟩
        · simp [World.setRow]
        · intro b' i' hA hb'
          have hlt := HP.out.2 b' i' hA
          rw [setRow_at _ _ _ _ (by omega), Below.heap_alloc _ _ _ hb']
      | false =>
        simp only [Bool.false_eq_true, if_false]
        cases r2 with
        | true =>
          simp only [if_true]
          go_enter Tryd.func32, Tryd.ntmps32
          go_wp2_with fail
          refine C1.out.mono ?_
          rintro e w1 ⟨rfl, hb⟩
          have J1 := Lib.hid (J0.out.kept hb)
          clear hb
          go_wp2_with fail
          refine (C2.out _ _ J1.out).mono ?_
          rintro e w2 ⟨PA, pn, pc, rfl, hpr, hb, hlo⟩
          have J2 := J1.out.kept hb
          have HP := Lib.hid (And.intro hpr (fun b i h => Nat.lt_of_lt_of_le (lt_of J1.out.2) (hlo b i h)))
          have hq := hp_new w2 (.cells #[.string ⟨s.toArray⟩, .slice PA pn pc, .bool false] 59)
          have J3 := Lib.hid (J2.kept ((Below.refl _ w2).alloc (Nat.le_refl _) (.cells #[.string ⟨s.toArray⟩, .slice PA pn pc, .bool false] 59)))
          have hq4 := Lib.hid hq
          have JF := Lib.hid (J3.out.row #[.string ⟨s.toArray⟩, .slice PA pn pc, .bool false])
          clear hpr hb hlo J2 hq
          go_wp2_with fail
          refine (C3.out _ _ J3.out).mono ?_
          rintro e wq ⟨rfl, rfl⟩
          go_wp2_with fail
          refine (C4.out _ _ J3.out).mono ?_
          rintro e wq ⟨rfl, rfl⟩
          go_wp2_with fail
          refine (C5.out _ _ J3.out).mono ?_
          rintro e wq ⟨rfl, rfl⟩
          go_wp2_with (first | (refine wpList_load_row rfl _ _ rfl w2.heap.size rfl _ _ _ _ hq4.out HU.out.2 rfl HU.out.1 ?_) | (refine wpList_store_row rfl _ _ _ rfl w.heap.size #[.string ⟨s.toArray⟩, .slice PA pn pc, .bool false] rfl rfl _ _ J3.out.2 (by kernel_rfl) rfl (by kernel_rfl) ?_))
          (try simp only [Exit.inBlock, Exit.then])
          refine bodyPost_ret (results_c3 rfl _ _ w.heap.size _ _ _ _ rfl JF.out.2 HU.out.2 rfl HU.out.1) rfl ⟨PA, pn, pc, rfl, HP.out.1.move ?_ ?_, JF.out.1, fun b i h => Nat.le_of_lt (HP.out.2 b i h)⟩
          · simp [World.setRow]
          · intro b' i' hA hb'
            have hlt := HP.out.2 b' i' hA
            rw [setRow_at _ _ _ _ (by omega), Below.heap_alloc _ _ _ hb']
        | false =>
          simp only [Bool.false_eq_true, if_false]
          go_enter Tryd.func32, Tryd.ntmps32
          go_wp2_with fail
          refine C1.out.mono ?_
          rintro e w1 ⟨rfl, hb⟩
          have J1 := Lib.hid (J0.out.kept hb)
          clear hb
          go_wp2_with fail
          refine (C2.out _ _ J1.out).mono ?_
          rintro e w2 ⟨PA, pn, pc, rfl, hpr, hb, hlo⟩
          have J2 := J1.out.kept hb
          have J3 := Lib.hid (J2.kept ((Below.refl _ w2).alloc (Nat.le_refl _) (.cells #[.string ⟨s.toArray⟩, .slice PA pn pc, .bool false] 59)))
          have JF := Lib.hid (J3.out.row #[.string ⟨#[]⟩, .slice none 0 0, .bool false])
          clear hpr hb hlo J2
          go_wp2_with fail
          refine (C3.out _ _ J3.out).mono ?_
          rintro e wq ⟨rfl, rfl⟩
          go_wp2_with fail
          refine (C4.out _ _ J3.out).mono ?_
          rintro e wq ⟨rfl, rfl⟩
          go_wp2_with fail
          refine (C5.out _ _ J3.out).mono ?_
          rintro e wq ⟨rfl, rfl⟩
          go_wp2_with (refine wpList_store_row rfl _ _ _ rfl w.heap.size #[.string ⟨#[]⟩, .slice none 0 0, .bool false] rfl rfl _ _ J3.out.2 (by kernel_rfl) rfl (by kernel_rfl) ?_)
          (try simp only [Exit.inBlock, Exit.then])
          exact bodyPost_ret (results_c3 rfl _ _ w.heap.size _ _ _ _ rfl JF.out.2 HU.out.2 rfl HU.out.1) rfl ⟨none, 0, 0, rfl, PRd.nilR _ _, JF.out.1, fun b i h => (by cases h)⟩
    · rw [if_pos hpe]
      have hei : ((pe : Int) == 0) = false := by simp; omega
      clear CB CS CP HK hln hno hpo hnx hpn hm hk
      go_enter Tryd.func32, Tryd.ntmps32
      go_wp2_with fail
      refine C1.out.mono ?_
      rintro e w1 ⟨rfl, hb⟩
      have J1 := Lib.hid (J0.out.kept hb)
      clear hb
      go_wp2_with fail
      refine (C2.out _ _ J1.out).mono ?_
      rintro e w2 ⟨PA, pn, pc, rfl, hpr, hb, hlo⟩
      have J2 := Lib.hid (J1.out.kept hb)
      have JF := Lib.hid (J2.out.row #[.string ⟨#[]⟩, .slice none 0 0, .bool false])
      clear hpr hb hlo
      go_wp2_with (refine wpList_store_row rfl _ _ _ rfl w.heap.size #[.string ⟨#[]⟩, .slice none 0 0, .bool false] rfl rfl _ _ J2.out.2 (by kernel_rfl) rfl (by kernel_rfl) ?_)
      (try simp only [Exit.inBlock, Exit.then])
      exact bodyPost_ret (results_c3 rfl _ _ w.heap.size _ _ _ _ rfl JF.out.2 HU.out.2 rfl HU.out.1) rfl ⟨none, 0, 0, rfl, PRd.nilR _ _, JF.out.1, fun b i h => (by cases h)⟩
  · rw [if_pos he]
    have hei : ((e : Int) == 0) = false := by simp; omega
    clear CB CS CP HK hln hno hpo hm hk
    go_enter Tryd.func32, Tryd.ntmps32
    go_wp2_with fail
    refine C1.out.mono ?_
    rintro e w1 ⟨rfl, hb⟩
    have J1 := Lib.hid (J0.out.kept hb)
    clear hb
    have JF := Lib.hid (J1.out.row #[.string ⟨#[]⟩, .slice none 0 0, .bool false])
    go_wp2_with (refine wpList_store_row rfl _ _ _ rfl w.heap.size #[.string ⟨#[]⟩, .slice none 0 0, .bool false] rfl rfl _ _ J1.out.2 (by kernel_rfl) rfl (by kernel_rfl) ?_)
    (try simp only [Exit.inBlock, Exit.then])
    exact bodyPost_ret (results_c3 rfl _ _ w.heap.size _ _ _ _ rfl JF.out.2 HU.out.2 rfl HU.out.1) rfl ⟨none, 0, 0, rfl, PRd.nilR _ _, JF.out.1, fun b i h => (by cases h)⟩
end Go.Proofs.YtmclngahdklfkaaDoor
/- narthexref10: Has; names with colons -/
namespace Go.Proofs.YtmclngahdklfkaaDoor
open Go.ChangeShapes Go.WideShapes Go.ChangeAt Go.RowKit
set_option linter.unusedVariables false
/-- While attributes are read, on the document's side. -/
def PhJ (w wr : World) (v : Value) (acc : List PairL) : Prop := Below w.heap.size w wr ∧ wr.ownsRow w.heap.size 99 2 v acc.length (cellsP acc)
theorem PhJ.kept {w wr w' : World} {v : Value} {acc : List PairL} (h : PhJ w wr v acc) (hb : Below wr.heap.size wr w') : PhJ w w' v acc :=
  ⟨h.1.trans (hb.mono h.1.size), ownsRow_keep h.2 fun g _ hg => hb.block g hg⟩
theorem PhJ.start (w : World) : PhJ w w (.slice none 0 0) [] := ⟨Below.refl _ _, rfl, Or.inl ⟨rfl, rfl⟩⟩
theorem PhJ.appended {w w3 w4 : World} {v v4 : Value} {acc : List PairL} {p : PairL} {cs : Array Value} {T : TypeId} (h : PhJ w w3 v acc) (hn : w4.ownsRow w.heap.size 99 2 v4 (acc ++ [p]).length (cellsP (acc ++ [p]))) (hg : (w3.alloc (.cells cs T)).grownBy w4 v.ownBlock) : PhJ w w4 v4 (acc ++ [p]) := by
  have hs := h.1.size
  refine ⟨(h.1.alloc h.1.size (.cells cs T)).grown hg (by simp; omega) fun k hk => ?_, hn⟩
  exact (h.2.lt k hk).1
end Go.Proofs.YtmclngahdklfkaaDoor
/- narthexref07.Quoted, Has, Strict; lit.Entity. -/
namespace Go.Proofs.YtmclngahdklfkaaDoor
open Go.ChangeShapes Go.WideShapes Go.ChangeAt Go.RowKit
set_option linter.unusedVariables false
end Go.Proofs.YtmclngahdklfkaaDoor
/- narthexref10.Pairs -/
namespace Go.Proofs.YtmclngahdklfkaaDoor
open Go.ChangeShapes Go.WideShapes Go.ChangeAt Go.RowKit
set_option linter.unusedVariables false
end Go.Proofs.YtmclngahdklfkaaDoor
/- narthexref10: Open, Close -/
namespace Go.Proofs.YtmclngahdklfkaaDoor
open Go.ChangeShapes Go.WideShapes Go.ChangeAt Go.RowKit
set_option linter.unusedVariables false
end Go.Proofs.YtmclngahdklfkaaDoor
/- narthexref10: Same; the page's example -/
namespace Go.Proofs.YtmclngahdklfkaaDoor
open Go.ChangeShapes Go.WideShapes Go.ChangeAt Go.RowKit
set_option linter.unusedVariables false
theorem PRd.drewN {w : World} {B n cap k : Nat} {A : Option Addr} {ps : List PairL} (h : PRd w B A n cap ps) : PRd (w.drewN k) B A n cap ps := h.keep (w' := w.drewN k) fun _ _ => rfl
end Go.Proofs.YtmclngahdklfkaaDoor
/- Tokens, in plain Lean. -/
namespace Go.Proofs.YtmclngahdklfkaaDoor
open Go.ChangeShapes Go.WideShapes Go.ChangeAt Go.RowKit
set_option linter.unusedVariables false
/-- A token, as both sides hold it. -/
structure TokL where
  kind : Int
  fro : Int
  to_ : Int
  name : List UInt8
  text : List UInt8
  pairs : List PairL
  r : Int
def noTok : TokL := ⟨0, 0, 0, [], [], [], 0⟩
def inTx (c : UInt8) : Bool := !(decide (c = 60) || decide (c = 38))
/-- The text that stands ahead of a '<' or an '&'. -/
def txt (l : List UInt8) : List UInt8 := l.takeWhile inTx
def textTok (l : List UInt8) (k : Nat) : TokL × Nat := if Lib.contains (txt (l.drop k)) [93, 93, 62] = true then (noTok, 7) else (⟨1, 0, ((k + (txt (l.drop k)).length : Nat) : Int), [], txt (l.drop k), [], 0⟩, 0)
/-- What is read at a place that holds a byte. -/
def readTok (l : List UInt8) (k : Nat) : TokL × Nat :=
  if [60, 33, 45, 45].isPrefixOf (l.drop k) = true then (⟨5, 0, ((commentOut l k).2.1 : Int), [], (commentOut l k).1, [], 0⟩, (commentOut l k).2.2)
  else if [60, 33, 91, 67, 68, 65, 84, 65, 91].isPrefixOf (l.drop k) = true then (⟨4, 0, ((cdataOut l k).2.1 : Int), [], (cdataOut l k).1, [], 0⟩, (cdataOut l k).2.2)
  else if [60, 63].isPrefixOf (l.drop k) = true then (⟨6, 0, ((piOut l k).2.2.1 : Int), (piOut l k).1, (piOut l k).2.1, [], 0⟩, (piOut l k).2.2.2)
  else if [60, 47].isPrefixOf (l.drop k) = true then (⟨9, 0, ((closeOut l k).2.1 : Int), (closeOut l k).1, [], [], 0⟩, (closeOut l k).2.2)
  else if [60].isPrefixOf (l.drop k) = true then (⟨if (openOut l k).1.empty = true then 8 else 7, 0, ((openOut l k).2.1 : Int), (openOut l k).1.name, [], (openOut l k).1.pairs, 0⟩, (openOut l k).2.2)
  else if [38, 35].isPrefixOf (l.drop k) = true then (⟨2, 0, ((charOut l k).2.1 : Int), [], [], [], (charOut l k).1⟩, (charOut l k).2.2)
  else if [38].isPrefixOf (l.drop k) = true then (⟨3, 0, ((refOut 38 l k).2.1 : Int), (refOut 38 l k).1, [], [], 0⟩, (refOut 38 l k).2.2)
  else textTok l k
def nextOut (l : List UInt8) (k : Nat) : TokL × Nat := if (readTok l k).2 = 0 then ({ (readTok l k).1 with fro := (k : Int) }, 0) else (noTok, (readTok l k).2)
/-- The token at any place. -/
def nextAt (l : List UInt8) (at_ : Int) : TokL × Nat := if at_ < 0 ∨ (l.length : Int) < at_ then (noTok, 3) else if at_ = (l.length : Int) then (noTok, 4) else nextOut l at_.toNat
theorem plain_ok (l : List UInt8) (k : Nat) (hk : k ≤ l.length) (h : (plainOut l k).2.2 = 0) : k < (plainOut l k).2.1 ∧ (plainOut l k).2.1 ≤ l.length := by
  have hle := endL_le l.length (noColon isStart) (noColon isMore) (l.drop k)
  rw [List.length_drop] at hle
  unfold plainOut at h ⊢
  simp only at h ⊢
  split
  · rename_i h0; rw [if_pos h0] at h; cases h
  · rename_i h0
    rw [if_neg h0] at h
    split
    · rename_i h1; rw [if_pos h1] at h; cases h
    · exact ⟨by simp only; omega, by simp only; omega⟩
theorem comment_ok (l : List UInt8) (k : Nat) (h : (commentOut l k).2.2 = 0) : k < (commentOut l k).2.1 ∧ (commentOut l k).2.1 ≤ l.length := by
  unfold commentOut at h ⊢
  split
  · rename_i h1; rw [if_pos h1] at h; cases h
  · rename_i h1
    rw [if_neg h1] at h
    split
    · rename_i h2; rw [if_pos h2] at h; cases h
    · rename_i h2
      rw [if_neg h2] at h
      split
      · rename_i h3
        have hk : k + 4 ≤ l.length := by
          have h1' : [60, 33, 45, 45].isPrefixOf (l.drop k) = true := by simpa using h1
          rcases pre_len h1' with e | e
          · cases e
          · simpa using e
        rcases findI_spec l [45, 45] (k + 4) hk with ⟨h', _⟩ | ⟨i, h', hki, _, _, _⟩
        · omega
        · rw [h'] at h3 ⊢
          rw [Int.toNat_natCast] at h3 ⊢
          rcases pre_len h3 with e | e
          · cases e
          · simp only [List.length_cons, List.length_nil] at e
            exact ⟨by show k < i + 3; omega, e⟩
      · rename_i h3; rw [if_neg h3] at h; cases h
theorem cdata_ok (l : List UInt8) (k : Nat) (h : (cdataOut l k).2.2 = 0) : k < (cdataOut l k).2.1 ∧ (cdataOut l k).2.1 ≤ l.length := by
  unfold cdataOut at h ⊢
  split
  · rename_i h1; rw [if_pos h1] at h; cases h
  · rename_i h1
    rw [if_neg h1] at h
    split
    · rename_i h2; rw [if_pos h2] at h; cases h
    · rename_i h2
      have hk : k + 9 ≤ l.length := by
        have h1' : [60, 33, 91, 67, 68, 65, 84, 65, 91].isPrefixOf (l.drop k) = true := by simpa using h1
        rcases pre_len h1' with e | e
        · cases e
        · simpa using e
      rcases findI_spec l [93, 93, 62] (k + 9) hk with ⟨h', _⟩ | ⟨i, h', hki, hil, _, _⟩
      · omega
      · rw [h', Int.toNat_natCast]
        exact ⟨by show k < i + 3; omega, by simpa using hil⟩
theorem pi_ok (l : List UInt8) (k : Nat) (hk : k ≤ l.length) (h : (piOut l k).2.2.2 = 0) : k < (piOut l k).2.2.1 ∧ (piOut l k).2.2.1 ≤ l.length := by
  unfold piOut at h ⊢
  split
  · rename_i h1; rw [if_pos h1] at h; cases h
  · rename_i h1
    rw [if_neg h1] at h
    have hk2 : k + 2 ≤ l.length := by
      have h1' : [60, 63].isPrefixOf (l.drop k) = true := by simpa using h1
      rcases pre_len h1' with e | e
      · cases e
      · simpa using e
    unfold piRest at h ⊢
    split
    · rename_i h2; rw [if_pos h2] at h; exact absurd h h2
    · rename_i h2
      rw [if_neg h2] at h
      split
      · rename_i h3; rw [if_pos h3] at h; cases h
      · rename_i h3
        rw [if_neg h3] at h
        split
        · rename_i h4; rw [if_pos h4] at h; cases h
        · rename_i h4
          have hp := plain_ok l (k + 2) hk2 (by simpa using h2)
          have hb := blankTo_le l _ hp.2
          rcases findI_spec l [63, 62] (blankTo l (plainOut l (k + 2)).2.1) hb.2 with ⟨h', _⟩ | ⟨i, h', hki, hil, _, _⟩
          · omega
          · rw [h', Int.toNat_natCast]
            exact ⟨by show k < i + 2; omega, by simpa using hil⟩
theorem close_ok (l : List UInt8) (k : Nat) (h : (closeOut l k).2.2 = 0) : k < (closeOut l k).2.1 ∧ (closeOut l k).2.1 ≤ l.length := by
  unfold closeOut at h ⊢
  split
  · rename_i h1
    rw [if_pos h1] at h
    have hk : k + 2 ≤ l.length := by
      rcases pre_len h1 with e | e
      · cases e
      · simpa using e
    split
    · rename_i h2; rw [if_pos h2] at h; exact absurd h h2
    · rename_i h2
      rw [if_neg h2] at h
      have hn := nameOut_ok l (k + 2) hk (by simpa using h2)
      split
      · rename_i h3
        have hb := blankTo_le l _ hn.2.1
        rcases pre_len h3 with e | e
        · cases e
        · simp only [List.length_cons, List.length_nil] at e
          exact ⟨by show k < blankTo l _ + 1; omega, e⟩
      · rename_i h3; rw [if_neg h3] at h; cases h
  · rename_i h1; rw [if_neg h1] at h; cases h
theorem pairsR_ge (l : List UInt8) : ∀ (f : Nat) (acc : List PairL) (t : Nat), t ≤ l.length → l.length + 1 ≤ f + t → (pairsR l f acc t).2.2 = 0 → t ≤ (pairsR l f acc t).2.1
  | 0, acc, t, ht, hf, _ => by omega
  | f + 1, acc, t, ht, hf, h => by
    cases hs : stopB l (blankTo l t) t with
    | true => rw [pairs_stop hs]; exact Nat.le_refl _
    | false =>
      by_cases he : (pairOut l (blankTo l t)).2.2 = 0
      · cases hh : hasN acc (pairOut l (blankTo l t)).1.1 with
        | true => rw [pairs_twice hs he hh] at h; cases h
        | false =>
          rw [pairs_more hs he hh] at h ⊢
          have hb := blankTo_le l t ht
          have hp := pairOut_ok l (blankTo l t) hb.2 he
          have := pairsR_ge l f (acc ++ [(pairOut l (blankTo l t)).1]) (pairOut l (blankTo l t)).2.1 hp.2.1 (by omega) h
          omega
      · rw [pairs_bad hs rfl he] at h
        exact absurd h he
theorem open_ok (l : List UInt8) (k : Nat) (h : (openOut l k).2.2 = 0) : k < (openOut l k).2.1 ∧ (openOut l k).2.1 ≤ l.length := by
  unfold openOut at h ⊢
  split
  · rename_i h1
    rw [if_pos h1] at h
    have hk : k + 1 ≤ l.length := (List.getElem?_eq_some_iff.1 h1).1
    split
    · rename_i h2; rw [if_pos h2] at h; exact absurd h h2
    · rename_i h2
      rw [if_neg h2] at h
      have hn := nameOut_ok l (k + 1) hk (by simpa using h2)
      split
      · rename_i h3; rw [if_pos h3] at h; exact absurd h h3
      · rename_i h3
        rw [if_neg h3] at h
        have hp1 := pairsOut_le l _ hn.2.1
        have hp2 := pairsR_ge l (l.length + 1) [] _ hn.2.1 (by omega) (by simpa [pairsOut] using h3)
        have hp3 : (nameOut l (k + 1)).2.1 ≤ (pairsOut l (nameOut l (k + 1)).2.1).2.1 := hp2
        have hb := blankTo_le l _ hp1
        split
        · rename_i h4
          rcases pre_len h4 with e | e
          · cases e
          · simp only [List.length_cons, List.length_nil] at e
            exact ⟨by show k < blankTo l _ + 2; omega, e⟩
        · rename_i h4
          rw [if_neg h4] at h
          split
          · rename_i h5
            rcases pre_len h5 with e | e
            · cases e
            · simp only [List.length_cons, List.length_nil] at e
              exact ⟨by show k < blankTo l _ + 1; omega, e⟩
          · rename_i h5; rw [if_neg h5] at h; cases h
  · rename_i h1; rw [if_neg h1] at h; cases h
theorem charBody_ok (b cap : Int) (l : List UInt8) (k : Nat) (h : (charBody b cap l k).2.2 = 0) : k < (charBody b cap l k).2.1 ∧ (charBody b cap l k).2.1 ≤ l.length := by
  unfold charBody at h ⊢
  simp only at h ⊢
  split
  · rename_i h1; rw [if_pos h1] at h; cases h
  · rename_i h1
    rw [if_neg h1] at h
    split
    · rw [not_or] at h1
      have h2 : l[k + (digs b (l.drop k)).length]? = some 59 := by simpa using h1.2
      have := (List.getElem?_eq_some_iff.1 h2).1
      exact ⟨by simp only; omega, by simp only; omega⟩
    · rename_i h2; rw [if_neg h2] at h; cases h
theorem char_ok (l : List UInt8) (k : Nat) (h : (charOut l k).2.2 = 0) : k < (charOut l k).2.1 ∧ (charOut l k).2.1 ≤ l.length := by
  unfold charOut at h ⊢
  split
  · rename_i h1
    rw [if_pos h1] at h
    split
    · rename_i h2
      rw [if_pos h2] at h
      have := charBody_ok _ _ _ _ h
      omega
    · rename_i h2
      rw [if_neg h2] at h
      have := charBody_ok _ _ _ _ h
      omega
  · rename_i h1; rw [if_neg h1] at h; cases h
theorem ref_ok (m : UInt8) (l : List UInt8) (k : Nat) (h : (refOut m l k).2.2 = 0) : k < (refOut m l k).2.1 ∧ (refOut m l k).2.1 ≤ l.length := by
  unfold refOut at h ⊢
  cases hc : l[k]? with
  | none => rw [hc] at h; cases h
  | some c =>
    rw [hc] at h
    simp only at h ⊢
    have hk := (List.getElem?_eq_some_iff.1 hc).1
    split
    · rename_i h1
      rw [if_pos h1] at h
      split
      · rename_i h2; rw [if_pos h2] at h; exact absurd h h2
      · rename_i h2
        rw [if_neg h2] at h
        have hp := plain_ok l (k + 1) hk (by simpa using h2)
        cases hd : l[(plainOut l (k + 1)).2.1]? with
        | none => rw [hd] at h; cases h
        | some d =>
          rw [hd] at h
          simp only at h ⊢
          have hl := (List.getElem?_eq_some_iff.1 hd).1
          split
          · exact ⟨by simp only; omega, by simp only; omega⟩
          · rename_i h3; rw [if_neg h3] at h; cases h
    · rename_i h1; rw [if_neg h1] at h; cases h
theorem txt_le (l : List UInt8) : (txt l).length ≤ l.length := (List.takeWhile_prefix (p := inTx) (l := l)).length_le
theorem txt_cons {c : UInt8} {t : List UInt8} (h : inTx c = true) : txt (c :: t) = c :: txt t := by simp [txt, h]
theorem txt_stop {c : UInt8} {t : List UInt8} (h : inTx c = false) : txt (c :: t) = [] := by simp [txt, h]
/-- A token that is read goes on from its place, and lies within. -/
theorem readTok_ok (l : List UInt8) (k : Nat) (hk : k < l.length) (h : (readTok l k).2 = 0) : ∃ t : Nat, (readTok l k).1.to_ = (t : Int) ∧ k < t ∧ t ≤ l.length := by
  unfold readTok at h ⊢
  split
  · rename_i h1; rw [if_pos h1] at h; exact ⟨_, rfl, comment_ok l k h⟩
  · rename_i h1
    rw [if_neg h1] at h
    split
    · rename_i h1; rw [if_pos h1] at h; exact ⟨_, rfl, cdata_ok l k h⟩
    · rename_i h1
      rw [if_neg h1] at h
      split
      · rename_i h1; rw [if_pos h1] at h; exact ⟨_, rfl, pi_ok l k (Nat.le_of_lt hk) h⟩
      · rename_i h1
        rw [if_neg h1] at h
        split
        · rename_i h1; rw [if_pos h1] at h; exact ⟨_, rfl, close_ok l k h⟩
        · rename_i h1
          rw [if_neg h1] at h
          split
          · rename_i h1; rw [if_pos h1] at h; exact ⟨_, rfl, open_ok l k h⟩
          · rename_i h60
            rw [if_neg h60] at h
            split
            · rename_i h1; rw [if_pos h1] at h; exact ⟨_, rfl, char_ok l k h⟩
            · rename_i h1
              rw [if_neg h1] at h
              split
              · rename_i h1; rw [if_pos h1] at h; exact ⟨_, rfl, ref_ok 38 l k h⟩
              · rename_i h38
                rw [if_neg h38] at h
                unfold textTok at h ⊢
                split
                · rename_i h1; rw [if_pos h1] at h; cases h
                · have hd : l.drop k = l[k] :: l.drop (k + 1) := List.drop_eq_getElem_cons hk
                  have hin : inTx l[k] = true := by
                    rw [pre_one, List.getElem?_eq_getElem hk] at h60 h38
                    have n60 : l[k] ≠ 60 := by simpa using h60
                    have n38 : l[k] ≠ 38 := by simpa using h38
                    simp [inTx, n60, n38]
                  have h1 : 0 < (txt (l.drop k)).length := by rw [hd, txt_cons hin]; simp
                  have h2 := txt_le (l.drop k)
                  rw [List.length_drop] at h2
                  exact ⟨_, rfl, by omega, by omega⟩
theorem nextOut_ok (l : List UInt8) (k : Nat) (hk : k < l.length) (h : (nextOut l k).2 = 0) : (nextOut l k).1.fro = (k : Int) ∧ ∃ t : Nat, (nextOut l k).1.to_ = (t : Int) ∧ k < t ∧ t ≤ l.length := by
  unfold nextOut at h ⊢
  split
  · rename_i h1; exact ⟨rfl, readTok_ok l k hk h1⟩
  · rename_i h1; rw [if_neg h1] at h; exact absurd h h1
/-- All tokens from a place on, behind those read so far. -/
def allR (l : List UInt8) : Nat → List TokL → Nat → List TokL × Nat × Nat
  | 0, _, _ => ([], 0, 0)
  | f + 1, acc, t => if t < l.length then (if (nextOut l t).2 = 0 then allR l f (acc ++ [(nextOut l t).1]) (nextOut l t).1.to_.toNat else ([], t, (nextOut l t).2)) else (acc, t, 0)
def allOut (l : List UInt8) : List TokL × Nat × Nat := allR l (l.length + 1) [] 0
theorem all_end {l : List UInt8} {f t : Nat} {acc : List TokL} (h : ¬ t < l.length) : allR l (f + 1) acc t = (acc, t, 0) := by rw [allR, if_neg h]
theorem all_bad {l : List UInt8} {f t : Nat} {acc : List TokL} (h : t < l.length) {e : Nat} (he : (nextOut l t).2 = e) (h0 : e ≠ 0) : allR l (f + 1) acc t = ([], t, e) := by
  rw [allR, if_pos h, if_neg (by rw [he]; exact h0), he]
theorem all_more {l : List UInt8} {f t u : Nat} {acc : List TokL} {k : TokL} (h : t < l.length) (he : nextOut l t = (k, 0)) (hu : k.to_ = (u : Int)) : allR l (f + 1) acc t = allR l f (acc ++ [k]) u := by
  rw [allR, if_pos h, if_pos (by rw [he]), he, hu, Int.toNat_natCast]
/-- Do tags match? From the i-th token on, within the elements that are open. -/
def matchR : List (List UInt8) → List TokL → Nat → Nat × Bool
  | op, [], i => (i, op.isEmpty)
  | op, t :: ts, i =>
    if t.kind = 7 then matchR (op ++ [t.name]) ts (i + 1)
    else if t.kind = 9 then (if op.getLast? = some t.name then matchR op.dropLast ts (i + 1) else (i, false))
    else matchR op ts (i + 1)
def matchOut (l : List TokL) : Nat × Bool := matchR [] l 0
end Go.Proofs.YtmclngahdklfkaaDoor
