/- Texts of ours, joined: TagP, TokP, MsP, MsQ, RowG, RowS, GrP, RfP, RowC. -/
import Derived.Test.YtgenpgfhjhcahaaGreatDoorRows
import Derived.WalkKit
import Derived.ProofKit
import Derived.OpenShut
import Derived.ShutString
import Derived.ChangeOld
import Derived.Below
import Derived.BigQuiet
import Derived.Deep.QuietTactic
import Derived.Lib.Hide
import Derived.Deep.RegionHeld3
import Derived.Lib.SlBytesConst
import Derived.Laws.CopyOwn
import Derived.Laws.CopyRow
import Derived.Lib.Bytes
import Derived.Deep.LoopGhost
import Derived.Deep.DeepFit
import Derived.Deep.DeepMust
import Derived.WalkSpells
import Derived.WalkLawsBesides
import Derived.Test.YtgenpgfhjhcahaaGreatDoorQ1
import Derived.Test.YtgenpgfhjhcahaaGreatDoorQ4
import Derived.Test.YtgenpgfhjhcahaaGreatDoorQ2
import Derived.Test.YtgenpgfhjhcahaaGreatDoorQ3
import Derived.Test.YtgenpgfhjhcahaaGreatDoorQ5
import Derived.Test.YtgenpgfhjhcahaaGreatDoorQ8
import Derived.Test.YtgenpgfhjhcahaaGreatDoorQ7
import Derived.Test.YtgenpgfhjhcahaaGreatDoorQ9
import Derived.Test.YtgenpgfhjhcahaaGreatDoorQ10
import Derived.Laws.EntriesVeiled
import Derived.Laws.Rows
import Derived.Maps.OwnOps
import Derived.Maps.OwnSet
import Derived.Maps.Views
import Derived.Maps.AppendAt
import Derived.Deep.AppendLies
import Derived.DeepKeys4
import Derived.MapViews
import Derived.Maps.Keyed
import Derived.Deep.RegionLaw
import Derived.Deep.RegionWith
import Derived.StillTailTactics
import Derived.Deep.CutRange
import Derived.IntWalk
import Derived.Laws.MakeOwn
import Derived.Laws.OwnMore
import Derived.Lib.SmallJoins
/- Tags: what is read, in plain Lean. -/
namespace Go.Proofs.YtgenpgfhjhcahaaGreatDoor
open Go.ChangeShapes Go.WideShapes Go.ChangeAt Go.RowKit
set_option linter.unusedVariables false
/-- An attribute: its name, its value. -/
abbrev PairL := List UInt8 × List UInt8
/-- An element's begin, as it is written. -/
structure TagL where
  name : List UInt8
  pairs : List PairL
  empty : Bool
/-- The cells of attributes. -/
def cellsP (ps : List PairL) : List Value := ps.flatMap fun p => [.string ⟨p.1.toArray⟩, .string ⟨p.2.toArray⟩]
theorem cellsP_length (ps : List PairL) : (cellsP ps).length = ps.length * 2 := by
  induction ps with
  | nil => rfl
  | cons p t ih => simp only [cellsP, List.flatMap_cons, List.length_append, List.length_cons, List.length_nil] at ih ⊢; omega
theorem cellsP_get : ∀ (ps : List PairL) (i : Nat) (p : PairL), ps[i]? = some p → (cellsP ps)[i * 2]? = some (.string ⟨p.1.toArray⟩) ∧ (cellsP ps)[i * 2 + 1]? = some (.string ⟨p.2.toArray⟩)
  | [], i, p, h => by cases h
  | q :: t, 0, p, h => by simp at h; subst h; exact ⟨rfl, rfl⟩
  | q :: t, i + 1, p, h => by
    have ih := cellsP_get t i p (by simpa using h)
    have e : cellsP (q :: t) = [.string ⟨q.1.toArray⟩, .string ⟨q.2.toArray⟩] ++ cellsP t := rfl
    rw [e, List.getElem?_append_right (by simp; omega), List.getElem?_append_right (by simp; omega)]
    simp only [List.length_cons, List.length_nil]
    rw [show (i + 1) * 2 - 2 = i * 2 by omega, show (i + 1) * 2 + 1 - 2 = i * 2 + 1 by omega]
    exact ih
/-- A row of attributes that can be read. -/
structure PRd (w : World) (B : Nat) (A : Option Addr) (n cap : Nat) (ps : List PairL) : Prop where
  len : ps.length = n
  le : n ≤ cap
  fit : cap ≤ maxLen
  nil : A = none → cap = 0
  at_ : 0 < cap → ∃ b o, A = some ⟨b, o, none⟩ ∧ b < B ∧ ∀ i p, ps[i]? = some p → w.cell? ⟨b, o + i * 2, none⟩ = some (.string ⟨p.1.toArray⟩) ∧ w.cell? ⟨b, o + i * 2 + 1, none⟩ = some (.string ⟨p.2.toArray⟩)
theorem PRd.keep {w w' : World} {B n cap : Nat} {A : Option Addr} {ps : List PairL} (h : PRd w B A n cap ps) (hk : ∀ p : Addr, p.block < B → w'.cell? p = w.cell? p) : PRd w' B A n cap ps :=
  ⟨h.len, h.le, h.fit, h.nil, fun h0 => by
    obtain ⟨b, o, e, hb, hc⟩ := h.at_ h0
    exact ⟨b, o, e, hb, fun i p hp => ⟨(hk ⟨b, _, none⟩ hb).trans (hc i p hp).1, (hk ⟨b, _, none⟩ hb).trans (hc i p hp).2⟩⟩⟩
theorem PRd.more {w : World} {B B' n cap : Nat} {A : Option Addr} {ps : List PairL} (h : PRd w B A n cap ps) (hB : B ≤ B') : PRd w B' A n cap ps :=
  ⟨h.len, h.le, h.fit, h.nil, fun h0 => by
    obtain ⟨b, o, e, hb, hc⟩ := h.at_ h0
    exact ⟨b, o, e, by omega, hc⟩⟩
theorem PRd.below {w w' : World} {B n cap : Nat} {A : Option Addr} {ps : List PairL} (h : PRd w B A n cap ps) (hb : Below B w w') : PRd w' B A n cap ps := h.keep fun p hp => hb.cell hp
theorem PRd.nilR (w : World) (B : Nat) : PRd w B none 0 0 [] := ⟨rfl, Nat.le_refl _, Nat.zero_le _, fun _ => rfl, fun h => absurd h (by omega)⟩
theorem PRd.ofOwn {w : World} {base : Nat} {e : TypeId} {v : Value} {n : Nat} {ps : List PairL} (h : w.ownsRow base e 2 v n (cellsP ps)) : ∃ A c, v = .slice A n c ∧ PRd w w.heap.size A n c ps := by
  obtain ⟨hl, h2 | ⟨g, cap, cur, hv, hg, hh, hn, hc, hs, ht⟩⟩ := h
  · obtain ⟨hv, hn⟩ := h2
    subst hn
    rw [cellsP_length] at hl
    have : ps = [] := List.length_eq_zero_iff.1 (by omega)
    subst this
    exact ⟨none, 0, hv, PRd.nilR w _⟩
  · rw [cellsP_length] at hl
    refine ⟨_, cap, hv, by omega, hn, hc, (fun e => by cases e), fun _ => ⟨g, 0, rfl, lt_of hh, fun i p hp => ?_⟩⟩
    have hi : i < ps.length := (List.getElem?_eq_some_iff.1 hp).1
    have hcp := cellsP_get ps i p hp
    rw [← ht, List.getElem?_take_of_lt (by omega), List.getElem?_take_of_lt (by omega)] at hcp
    rw [cell_of _ hh, cell_of _ hh, Nat.zero_add]
    simpa using hcp
theorem PRd.cell {w : World} {B n cap : Nat} {A : Option Addr} {ps : List PairL} {i : Nat} (h : PRd w B A n cap ps) (hi : i < n) :
    ∃ b o p, A = some ⟨b, o, none⟩ ∧ b < B ∧ ps[i]? = some p ∧ w.cell? ⟨b, o + i * 2, none⟩ = some (.string ⟨p.1.toArray⟩) ∧ w.cell? ⟨b, o + i * 2 + 1, none⟩ = some (.string ⟨p.2.toArray⟩) := by
  obtain ⟨b, o, e, hb, hc⟩ := h.at_ (by have := h.le; omega)
  have hl : i < ps.length := by rw [h.len]; exact hi
  have hp := List.getElem?_eq_getElem hl
  exact ⟨b, o, ps[i], e, hb, hp, (hc i _ hp).1, (hc i _ hp).2⟩
theorem PRd.take {w : World} {B n cap : Nat} {A : Option Addr} {ps : List PairL} {k : Nat} (h : PRd w B A n cap ps) (hk : k ≤ n) : PRd w B A k cap (ps.take k) :=
  ⟨by rw [List.length_take, h.len]; omega, by have := h.le; omega, h.fit, h.nil, fun h0 => by
    obtain ⟨b, o, e, hb, hc⟩ := h.at_ h0
    exact ⟨b, o, e, hb, fun i p hp => hc i p (by rw [List.getElem?_take] at hp; split at hp
                                                 · exact hp
                                                 · cases hp)⟩⟩
end Go.Proofs.YtgenpgfhjhcahaaGreatDoor
/- Tokens, in plain Lean. -/
namespace Go.Proofs.YtgenpgfhjhcahaaGreatDoor
open Go.ChangeShapes Go.WideShapes Go.ChangeAt Go.RowKit
set_option linter.unusedVariables false
/-- A token, as both sides hold it. -/
structure TokL where
  kind : Int
  fro : Int
  to_ : Int
  name : List UInt8
  text : List UInt8
  pairs : List PairL
  r : Int
theorem plain_ok (l : List UInt8) (k : Nat) (hk : k ≤ l.length) (h : (plainOut l k).2.2 = 0) : k < (plainOut l k).2.1 ∧ (plainOut l k).2.1 ≤ l.length := by
  have hle := endL_le l.length (noColon isStart) (noColon isMore) (l.drop k)
  rw [List.length_drop] at hle
  unfold plainOut at h ⊢
  simp only at h ⊢
  split
  · rename_i h0; rw [if_pos h0] at h; cases h
  · rename_i h0
    rw [if_neg h0] at h
    split
    · rename_i h1; rw [if_pos h1] at h; cases h
    · exact ⟨by simp only; omega, by simp only; omega⟩
theorem comment_ok (l : List UInt8) (k : Nat) (h : (commentOut l k).2.2 = 0) : k < (commentOut l k).2.1 ∧ (commentOut l k).2.1 ≤ l.length := by
  unfold commentOut at h ⊢
  split
  · rename_i h1; rw [if_pos h1] at h; cases h
  · rename_i h1
    rw [if_neg h1] at h
    split
    · rename_i h2; rw [if_pos h2] at h; cases h
    · rename_i h2
      rw [if_neg h2] at h
      split
      · rename_i h3
        have hk : k + 4 ≤ l.length := by
          have h1' : [60, 33, 45, 45].isPrefixOf (l.drop k) = true := by simpa using h1
          rcases pre_len h1' with e | e
          · cases e
          · simpa using e
        rcases findI_spec l [45, 45] (k + 4) hk with ⟨h', _⟩ | ⟨i, h', hki, _, _, _⟩
        · omega
        · rw [h'] at h3 ⊢
          rw [Int.toNat_natCast] at h3 ⊢
          rcases pre_len h3 with e | e
          · cases e
          · simp only [List.length_cons, List.length_nil] at e
            exact ⟨by show k < i + 3; omega, e⟩
      · rename_i h3; rw [if_neg h3] at h; cases h
theorem pi_ok (l : List UInt8) (k : Nat) (hk : k ≤ l.length) (h : (piOut l k).2.2.2 = 0) : k < (piOut l k).2.2.1 ∧ (piOut l k).2.2.1 ≤ l.length := by
  unfold piOut at h ⊢
  split
  · rename_i h1; rw [if_pos h1] at h; cases h
  · rename_i h1
    rw [if_neg h1] at h
    have hk2 : k + 2 ≤ l.length := by
      have h1' : [60, 63].isPrefixOf (l.drop k) = true := by simpa using h1
      rcases pre_len h1' with e | e
      · cases e
      · simpa using e
    unfold piRest at h ⊢
    split
    · rename_i h2; rw [if_pos h2] at h; exact absurd h h2
    · rename_i h2
      rw [if_neg h2] at h
      split
      · rename_i h3; rw [if_pos h3] at h; cases h
      · rename_i h3
        rw [if_neg h3] at h
        split
        · rename_i h4; rw [if_pos h4] at h; cases h
        · rename_i h4
          have hp := plain_ok l (k + 2) hk2 (by simpa using h2)
          have hb := blankTo_le l _ hp.2
          rcases findI_spec l [63, 62] (blankTo l (plainOut l (k + 2)).2.1) hb.2 with ⟨h', _⟩ | ⟨i, h', hki, hil, _, _⟩
          · omega
          · rw [h', Int.toNat_natCast]
            exact ⟨by show k < i + 2; omega, by simpa using hil⟩
end Go.Proofs.YtgenpgfhjhcahaaGreatDoor
/- Comments and processing instructions, one behind the other, in plain Lean. -/
namespace Go.Proofs.YtgenpgfhjhcahaaGreatDoor
open Go.ChangeShapes Go.WideShapes Go.ChangeAt Go.RowKit
set_option linter.unusedVariables false
/-- A comment or a processing instruction, as an event. -/
structure MisT where
  kind : Nat
  name : List UInt8
  text : List UInt8
def cMis (m : MisT) : List Value := [.int .i64 (m.kind : Nat), .string ⟨#[]⟩, .string ⟨m.name.toArray⟩, .slice none 0 0, .string ⟨m.text.toArray⟩]
/-- What stands at a place: an event, the place behind, the fault. -/
def misAt (l : List UInt8) (t : Nat) : Option (MisT × Nat × Nat) :=
  if [60, 33, 45, 45].isPrefixOf (l.drop t) = true then some (⟨5, [], (commentOut l t).1⟩, (commentOut l t).2.1, (commentOut l t).2.2)
  else if [60, 63].isPrefixOf (l.drop t) = true then some (⟨4, (piOut l t).1, (piOut l t).2.1⟩, (piOut l t).2.2.1, (piOut l t).2.2.2)
  else none
theorem misAt_ok {l : List UInt8} {t : Nat} (ht : t ≤ l.length) {m : MisT} {nx : Nat} (h : misAt l t = some (m, nx, 0)) : t < nx ∧ nx ≤ l.length := by
  unfold misAt at h
  split at h
  · simp only [Option.some.injEq, Prod.mk.injEq] at h
    have := comment_ok l t h.2.2
    omega
  · split at h
    · simp only [Option.some.injEq, Prod.mk.injEq] at h
      have := pi_ok l t ht h.2.2
      omega
    · cases h
def evsF (l : List UInt8) : Nat → Nat → List (MisT × Nat × Nat)
  | 0, _ => []
  | f + 1, t => match misAt l (blankTo l t) with
    | none => []
    | some y => y :: (if y.2.2 = 0 then evsF l f y.2.1 else [])
theorem evsF_fuel (l : List UInt8) : ∀ (f g t : Nat), t ≤ l.length → l.length < f + t → l.length < g + t → evsF l f t = evsF l g t
  | 0, g, t, ht, hf, hg => by omega
  | f + 1, 0, t, ht, hf, hg => by omega
  | f + 1, g + 1, t, ht, hf, hg => by
    have hb := blankTo_le l t ht
    unfold evsF
    cases hm : misAt l (blankTo l t) with
    | none => rfl
    | some y =>
      obtain ⟨m, nx, e⟩ := y
      simp only
      by_cases he : e = 0
      · subst he
        have hn := misAt_ok hb.2 hm
        rw [if_pos rfl, if_pos rfl, evsF_fuel l f g nx hn.2 (by omega) (by omega)]
      · rw [if_neg he, if_neg he]
/-- What the iterator hands out. -/
def evsM (l : List UInt8) (t : Nat) : List (MisT × Nat × Nat) := evsF l (l.length + 1) t
theorem evsM_none {l : List UInt8} {t : Nat} (h : misAt l (blankTo l t) = none) : evsM l t = [] := by
  unfold evsM evsF
  rw [h]
theorem evsM_bad {l : List UInt8} {t nx e : Nat} {m : MisT} (h : misAt l (blankTo l t) = some (m, nx, e)) (he : e ≠ 0) : evsM l t = [(m, nx, e)] := by
  unfold evsM evsF
  rw [h]
  simp only
  rw [if_neg he]
theorem evsM_more {l : List UInt8} {t nx : Nat} {m : MisT} (ht : t ≤ l.length) (h : misAt l (blankTo l t) = some (m, nx, 0)) : evsM l t = (m, nx, 0) :: evsM l nx := by
  have hb := blankTo_le l t ht
  have hn := misAt_ok hb.2 h
  have e : evsM l t = (m, nx, 0) :: evsF l l.length nx := by
    show (match misAt l (blankTo l t) with | none => [] | some y => y :: (if y.2.2 = 0 then evsF l l.length y.2.1 else [])) = _
    rw [h]
    rfl
  rw [e]
  unfold evsM
  rw [evsF_fuel l l.length (l.length + 1) nx hn.2 (by omega) (by omega)]
/-- What is made of what is handed out. -/
def outM (l : List UInt8) : List (MisT × Nat × Nat) → List MisT → Nat → List MisT × Nat × Nat
  | [], acc, t => (acc, blankTo l t, 0)
  | (m, nx, e) :: r, acc, _ => if e = 0 then outM l r (acc ++ [m]) nx else ([], 0, e)
/-- The comments and processing instructions at a place. -/
def miscOut (l : List UInt8) (t : Nat) : List MisT × Nat × Nat := outM l (evsM l t) [] t
theorem outM_none {l : List UInt8} {acc : List MisT} {t : Nat} (h : misAt l (blankTo l t) = none) : outM l (evsM l t) acc t = (acc, blankTo l t, 0) := by rw [evsM_none h, outM]
theorem outM_bad {l : List UInt8} {acc : List MisT} {t nx e : Nat} {m : MisT} (h : misAt l (blankTo l t) = some (m, nx, e)) (he : e ≠ 0) : outM l (evsM l t) acc t = ([], 0, e) := by rw [evsM_bad h he, outM, if_neg he]
theorem outM_more {l : List UInt8} {acc : List MisT} {t nx : Nat} {m : MisT} (ht : t ≤ l.length) (h : misAt l (blankTo l t) = some (m, nx, 0)) : outM l (evsM l t) acc t = outM l (evsM l nx) (acc ++ [m]) nx := by rw [evsM_more ht h, outM, if_pos rfl]
/-- Each that is handed out but the last goes on. -/
theorem evsF_pre (l : List UInt8) : ∀ (f t : Nat) (pre : List (MisT × Nat × Nat)) (x : MisT × Nat × Nat), pre ++ [x] <+: evsF l f t → ∀ y ∈ pre, y.2.2 = 0
  | 0, t, pre, x, h => by
    unfold evsF at h
    have := h.length_le
    simp at this
  | f + 1, t, pre, x, h => by
    unfold evsF at h
    cases hm : misAt l (blankTo l t) with
    | none =>
      rw [hm] at h
      have := h.length_le
      simp at this
    | some z =>
      rw [hm] at h
      simp only at h
      cases pre with
      | nil => intro y hy; cases hy
      | cons p pre =>
        rw [List.cons_append, List.cons_prefix_cons] at h
        obtain ⟨rfl, h⟩ := h
        by_cases he : p.2.2 = 0
        · rw [if_pos he] at h
          intro y hy
          rcases List.mem_cons.1 hy with rfl | hy
          · exact he
          · exact evsF_pre l f _ pre x h y hy
        · rw [if_neg he] at h
          have := h.length_le
          simp at this
end Go.Proofs.YtgenpgfhjhcahaaGreatDoor
/- What a range over comments and processing instructions gathers, in plain Lean. -/
namespace Go.Proofs.YtgenpgfhjhcahaaGreatDoor
open Go.ChangeShapes Go.WideShapes Go.ChangeAt Go.RowKit
set_option linter.unusedVariables false
/-- The place behind the last that was handed out. -/
def lastN (t : Nat) (xs : List (MisT × Nat × Nat)) : Nat := xs.foldl (fun _ y => y.2.1) t
theorem lastN_snoc (t : Nat) (xs : List (MisT × Nat × Nat)) (x : MisT × Nat × Nat) : lastN t (xs ++ [x]) = x.2.1 := by simp [lastN]
theorem outM_good (l : List UInt8) : ∀ (xs : List (MisT × Nat × Nat)) (acc : List MisT) (t : Nat), (∀ y ∈ xs, y.2.2 = 0) → outM l xs acc t = (acc ++ xs.map (fun y => y.1), blankTo l (lastN t xs), 0)
  | [], acc, t, _ => by simp [outM, lastN]
  | (m, nx, e) :: r, acc, t, h => by
    have he : e = 0 := h (m, nx, e) (List.mem_cons_self ..)
    rw [outM, if_pos he, outM_good l r (acc ++ [m]) nx (fun y hy => h y (List.mem_cons_of_mem _ hy))]
    simp [lastN]
theorem outM_stop (l : List UInt8) (x : MisT × Nat × Nat) (hx : x.2.2 ≠ 0) : ∀ (pre : List (MisT × Nat × Nat)) (acc : List MisT) (t : Nat), (∀ y ∈ pre, y.2.2 = 0) → outM l (pre ++ [x]) acc t = ([], 0, x.2.2)
  | [], acc, t, _ => by
    obtain ⟨m, nx, e⟩ := x
    rw [List.nil_append, outM, if_neg hx]
  | (m, nx, e) :: r, acc, t, h => by
    have he : e = 0 := h (m, nx, e) (List.mem_cons_self ..)
    rw [List.cons_append, outM, if_pos he]
    exact outM_stop l x hx r _ _ (fun y hy => h y (List.mem_cons_of_mem _ hy))
theorem evsF_stop (l : List UInt8) : ∀ (f t : Nat) (pre : List (MisT × Nat × Nat)) (x : MisT × Nat × Nat), pre ++ [x] <+: evsF l f t → x.2.2 ≠ 0 → evsF l f t = pre ++ [x]
  | 0, t, pre, x, h, hx => by
    unfold evsF at h
    have := h.length_le
    simp at this
  | f + 1, t, pre, x, h, hx => by
    unfold evsF at h ⊢
    cases hm : misAt l (blankTo l t) with
    | none =>
      rw [hm] at h
      have := h.length_le
      simp at this
    | some z =>
      rw [hm] at h
      simp only at h ⊢
      cases pre with
      | nil =>
        rw [List.nil_append, List.cons_prefix_cons] at h
        obtain ⟨rfl, h⟩ := h
        rw [if_neg hx, List.nil_append]
      | cons p pre =>
        rw [List.cons_append, List.cons_prefix_cons] at h
        obtain ⟨rfl, h⟩ := h
        by_cases he : p.2.2 = 0
        · rw [if_pos he] at h ⊢
          rw [evsF_stop l f _ pre x h hx, List.cons_append]
        · rw [if_neg he] at h
          have := h.length_le
          simp at this
/-- What is handed out is no more than there are bytes, and lies within the text. -/
theorem misAt_lt {l : List UInt8} {t : Nat} {y : MisT × Nat × Nat} (h : misAt l t = some y) : t < l.length := by
  unfold misAt at h
  have hp : ∀ (c : UInt8) (p : List UInt8), (c :: p).isPrefixOf (l.drop t) = true → t < l.length := fun c p hp => by
    rcases Nat.lt_or_ge t l.length with h | h
    · exact h
    · rw [List.drop_eq_nil_of_le h] at hp
      cases hp
  split at h
  · exact hp _ _ (by assumption)
  · split at h
    · exact hp _ _ (by assumption)
    · cases h
theorem evsF_len (l : List UInt8) : ∀ (f t : Nat), t ≤ l.length → (evsF l f t).length + t ≤ l.length
  | 0, t, ht => by unfold evsF; simpa using ht
  | f + 1, t, ht => by
    unfold evsF
    have hb := blankTo_le l t ht
    cases hm : misAt l (blankTo l t) with
    | none => simpa using ht
    | some z =>
      have h1 := misAt_lt hm
      simp only
      by_cases he : z.2.2 = 0
      · obtain ⟨m, nx, e⟩ := z
        simp only at he
        subst he
        have h2 := misAt_ok hb.2 hm
        have := evsF_len l f nx h2.2
        rw [if_pos rfl, List.length_cons]
        show (evsF l f nx).length + 1 + t ≤ l.length
        omega
      · rw [if_neg he]
        simp only [List.length_cons, List.length_nil]
        have := hb.1
        omega
theorem evsM_len (l : List UInt8) (t : Nat) (ht : t ≤ l.length) : (evsM l t).length ≤ l.length := by
  have := evsF_len l (l.length + 1) t ht
  unfold evsM
  omega
theorem evsF_in (l : List UInt8) : ∀ (f t : Nat), t ≤ l.length → ∀ y ∈ evsF l f t, y.2.2 = 0 → y.2.1 ≤ l.length
  | 0, t, ht, y, h, h0 => by unfold evsF at h; cases h
  | f + 1, t, ht, y, h, h0 => by
    unfold evsF at h
    have hb := blankTo_le l t ht
    cases hm : misAt l (blankTo l t) with
    | none => rw [hm] at h; cases h
    | some z =>
      rw [hm] at h
      simp only at h
      obtain ⟨m, nx, e⟩ := z
      rcases List.mem_cons.1 h with rfl | h
      · simp only at h0
        subst h0
        exact (misAt_ok hb.2 hm).2
      · by_cases he : e = 0
        · subst he
          rw [if_pos rfl] at h
          exact evsF_in l f _ (misAt_ok hb.2 hm).2 y h h0
        · rw [if_neg he] at h
          cases h
theorem evsM_in (l : List UInt8) (t : Nat) (ht : t ≤ l.length) : ∀ y ∈ evsM l t, y.2.2 = 0 → y.2.1 ≤ l.length := evsF_in l _ t ht
theorem lastN_le (l : List UInt8) (t : Nat) (ht : t ≤ l.length) (pre : List (MisT × Nat × Nat)) (hp : pre <+: evsM l t) (h0 : ∀ y ∈ pre, y.2.2 = 0) : lastN t pre ≤ l.length := by
  rcases List.eq_nil_or_concat pre with rfl | ⟨p, x, rfl⟩
  · exact ht
  · rw [List.concat_eq_append, lastN_snoc]
    exact evsM_in l t ht x (hp.subset (by simp)) (h0 x (by simp))
theorem miscOut_stop (l : List UInt8) (t : Nat) (pre : List (MisT × Nat × Nat)) (x : MisT × Nat × Nat) (h : pre ++ [x] <+: evsM l t) (hx : x.2.2 ≠ 0) : miscOut l t = ([], 0, x.2.2) := by
  unfold miscOut
  rw [show evsM l t = pre ++ [x] from evsF_stop l _ t pre x h hx]
  exact outM_stop l x hx pre [] t (evsF_pre l _ t pre x h)
theorem miscOut_good (l : List UInt8) (t : Nat) (h : ∀ y ∈ evsM l t, y.2.2 = 0) : miscOut l t = ((evsM l t).map (fun y => y.1), blankTo l (lastN t (evsM l t)), 0) := by
  unfold miscOut
  rw [outM_good l _ [] t h, List.nil_append]
theorem miscOut_le (l : List UInt8) (t : Nat) (ht : t ≤ l.length) {ev : List MisT} {nx : Nat} (h : miscOut l t = (ev, nx, 0)) : nx ≤ l.length ∧ ev.length ≤ l.length := by
  by_cases hg : ∀ y ∈ evsM l t, y.2.2 = 0
  · rw [miscOut_good l t hg] at h
    injection h with h1 h2
    injection h2 with h2 _
    rw [← h2, ← h1]
    exact ⟨(blankTo_le l _ (lastN_le l t ht _ (List.prefix_refl _) hg)).2, by rw [List.length_map]; exact evsM_len l t ht⟩
  · exfalso
    have : ∃ y, y ∈ evsM l t ∧ y.2.2 ≠ 0 := by
      apply Classical.byContradiction
      intro hn
      exact hg fun y hy => Classical.byContradiction fun h0 => hn ⟨y, hy, h0⟩
    obtain ⟨y, hy, h0⟩ := this
    obtain ⟨p, q, hpq⟩ := List.append_of_mem hy
    have hpre : p ++ [y] <+: evsM l t := ⟨q, by rw [hpq]; simp⟩
    rw [miscOut_stop l t p y hpre h0] at h
    injection h with _ h
    injection h with _ h
    exact h0 h
end Go.Proofs.YtgenpgfhjhcahaaGreatDoor
/- Rows of elements of so many cells, whatever they are. -/
namespace Go.Proofs.YtgenpgfhjhcahaaGreatDoor
open Go.ChangeShapes Go.WideShapes Go.ChangeAt Go.RowKit
set_option linter.unusedVariables false
/-- A row whose elements take k cells each, that can be read (whatever the elements are). -/
structure RRd {α : Type} (c : α → List Value) (k : Nat) (w : World) (B : Nat) (A : Option Addr) (n cap : Nat) (xs : List α) : Prop where
  len : xs.length = n
  le : n ≤ cap
  fit : cap ≤ maxLen
  nil : A = none → cap = 0
  at_ : 0 < cap → ∃ b o, A = some ⟨b, o, none⟩ ∧ b < B ∧ ∀ i x, xs[i]? = some x → ∀ (j : Nat) u, (c x)[j]? = some u → w.cell? ⟨b, o + (i * k + j), none⟩ = some u
theorem RRd.keep {α : Type} {c : α → List Value} {k : Nat} {w w' : World} {B n cap : Nat} {A : Option Addr} {xs : List α} (h : RRd c k w B A n cap xs) (hk : ∀ p : Addr, p.block < B → w'.cell? p = w.cell? p) : RRd c k w' B A n cap xs :=
  ⟨h.len, h.le, h.fit, h.nil, fun h0 => by
    obtain ⟨b, o, e, hb, hc⟩ := h.at_ h0
    exact ⟨b, o, e, hb, fun i x hx j u hu => (hk ⟨b, _, none⟩ hb).trans (hc i x hx j u hu)⟩⟩
theorem RRd.more {α : Type} {c : α → List Value} {k : Nat} {w : World} {B B' n cap : Nat} {A : Option Addr} {xs : List α} (h : RRd c k w B A n cap xs) (hB : B ≤ B') : RRd c k w B' A n cap xs :=
  ⟨h.len, h.le, h.fit, h.nil, fun h0 => by
    obtain ⟨b, o, e, hb, hc⟩ := h.at_ h0
    exact ⟨b, o, e, by omega, hc⟩⟩
theorem RRd.below {α : Type} {c : α → List Value} {k : Nat} {w w' : World} {B n cap : Nat} {A : Option Addr} {xs : List α} (h : RRd c k w B A n cap xs) (hb : Below B w w') : RRd c k w' B A n cap xs := h.keep fun p hp => hb.cell hp
theorem RRd.up {α : Type} {c : α → List Value} {k : Nat} {w w' : World} {n cap : Nat} {A : Option Addr} {xs : List α} (h : RRd c k w w.heap.size A n cap xs) (hb : Below w.heap.size w w') : RRd c k w' w'.heap.size A n cap xs := (h.below hb).more hb.size
theorem RRd.drewN {α : Type} {c : α → List Value} {k : Nat} {w : World} {B n cap m : Nat} {A : Option Addr} {xs : List α} (h : RRd c k w B A n cap xs) : RRd c k (w.drewN m) B A n cap xs := h.keep (w' := w.drewN m) fun _ _ => rfl
theorem RRd.nilR {α : Type} (c : α → List Value) (k : Nat) (w : World) (B : Nat) : RRd c k w B none 0 0 [] := ⟨rfl, Nat.le_refl _, Nat.zero_le _, fun _ => rfl, fun h => absurd h (by omega)⟩
theorem RRd.cell {α : Type} {c : α → List Value} {k : Nat} {w : World} {B n cap : Nat} {A : Option Addr} {xs : List α} {i : Nat} (h : RRd c k w B A n cap xs) (hi : i < n) :
    ∃ b o x, A = some ⟨b, o, none⟩ ∧ b < B ∧ xs[i]? = some x ∧ ∀ (j : Nat) u, (c x)[j]? = some u → w.cell? ⟨b, o + (i * k + j), none⟩ = some u := by
  obtain ⟨b, o, e, hb, hc⟩ := h.at_ (by have := h.le; omega)
  have hl : i < xs.length := by rw [h.len]; exact hi
  exact ⟨b, o, xs[i], e, hb, List.getElem?_eq_getElem hl, hc i _ (List.getElem?_eq_getElem hl)⟩
theorem flat_get {α : Type} {c : α → List Value} {k : Nat} (hk : ∀ x, (c x).length = k) : ∀ (xs : List α) (i : Nat) (x : α), xs[i]? = some x → ∀ (j : Nat) u, (c x)[j]? = some u → (xs.flatMap c)[i * k + j]? = some u
  | [], i, x, h, j, u, hu => by simp at h
  | y :: xs, 0, x, h, j, u, hu => by
    simp at h
    subst h
    have hj : j < (c y).length := (List.getElem?_eq_some_iff.1 hu).1
    rw [List.flatMap_cons, Nat.zero_mul, Nat.zero_add, List.getElem?_append_left hj]
    exact hu
  | y :: xs, i + 1, x, h, j, u, hu => by
    rw [List.flatMap_cons, List.getElem?_append_right (by rw [hk, Nat.add_mul]; omega), hk, show (i + 1) * k + j - k = i * k + j by rw [Nat.add_mul]; omega]
    exact flat_get hk xs i x (by simpa using h) j u hu
theorem flat_len {α : Type} {c : α → List Value} {k : Nat} (hk : ∀ x, (c x).length = k) : ∀ xs : List α, (xs.flatMap c).length = xs.length * k
  | [] => by simp
  | y :: xs => by rw [List.flatMap_cons, List.length_append, hk, flat_len hk xs, List.length_cons, Nat.add_mul]; omega
/-- A row that the call made is one that can be read. -/
theorem RRd.ofOwn {α : Type} {c : α → List Value} {k : Nat} (hk : ∀ x, (c x).length = k) (h0 : 0 < k) {w : World} {base : Nat} {e : TypeId} {v : Value} {n : Nat} {xs : List α} (h : w.ownsRow base e k v n (xs.flatMap c)) : ∃ A cp, v = .slice A n cp ∧ RRd c k w w.heap.size A n cp xs := by
  obtain ⟨hl, h2 | ⟨g, cap, cur, hv, hg, hh, hn, hc, hs, ht⟩⟩ := h
  · obtain ⟨hv, hn⟩ := h2
    subst hn
    rw [flat_len hk] at hl
    have : xs = [] := List.length_eq_zero_iff.1 (by
      rcases Nat.eq_zero_or_pos xs.length with h | h
      · exact h
      · have := Nat.mul_pos h h0
        omega)
    subst this
    exact ⟨none, 0, hv, RRd.nilR c k w _⟩
  · rw [flat_len hk] at hl
    have hnx : xs.length = n := Nat.eq_of_mul_eq_mul_right h0 hl
    refine ⟨_, cap, hv, hnx, hn, hc, (fun e => by cases e), fun _ => ⟨g, 0, rfl, lt_of hh, fun i p hp j u hu => ?_⟩⟩
    have hi : i < xs.length := (List.getElem?_eq_some_iff.1 hp).1
    have hj : j < k := by rw [← hk p]; exact (List.getElem?_eq_some_iff.1 hu).1
    have hcp := flat_get hk xs i p hp j u hu
    have hlt : i * k + j < n * k := by
      have : (i + 1) * k ≤ n * k := Nat.mul_le_mul_right _ (by omega)
      rw [Nat.add_mul] at this
      omega
    rw [← ht, List.getElem?_take_of_lt hlt] at hcp
    rw [cell_of _ hh, Nat.zero_add]
    simpa using hcp
end Go.Proofs.YtgenpgfhjhcahaaGreatDoor
/- Rows of strings of the call's own. -/
namespace Go.Proofs.YtgenpgfhjhcahaaGreatDoor
open Go.ChangeShapes Go.WideShapes Go.ChangeAt Go.RowKit
set_option linter.unusedVariables false
theorem ownsRow_keep {w w' : World} {base : Nat} {e : TypeId} {c n : Nat} {v : Value} {xs : List Value} (h : w.ownsRow base e c v n xs) (hk : ∀ g, base ≤ g → g < w.heap.size → w'.heap[g]? = w.heap[g]?) : w'.ownsRow base e c v n xs := by
  obtain ⟨hl, h2 | ⟨g, cap, cur, hv, hg, hh, r⟩⟩ := h
  · exact ⟨hl, Or.inl h2⟩
  · exact ⟨hl, Or.inr ⟨g, cap, cur, hv, hg, (hk g hg (lt_of hh)).trans hh, r⟩⟩
theorem cell_newN (w : World) (us : List Value) (T : TypeId) : ∀ (j : Nat) (v : Value), us[j]? = some v → (w.alloc (.cells us.toArray T)).cell? ((⟨w.heap.size, 0, none⟩ : Addr).add j) = some v := by
  intro j v hv
  rw [addr_add, cell_of _ (hp_new _ _)]
  simpa using hv
/-- 'out = append(out, u)' onto a row of the call's own, the element's cells lying in a block just made. -/
theorem wpList_appK {P : Program} {ops : Array Oper} {rest : List Oper} {o : Oper} {a : Act} {Q : Exit → Act → World → Prop} {w : World} (hgd : o.guard = none) (s x : Operand) (t e : TypeId)
    (ho : o.op = .call { callee := .builtin .append, args := #[s, x], argTypes := #[t, t] }) (z : Value) (k bytes : Nat) (ht : P.underlying t = some (.slice e))
    (hi : ∃ i, P.info? e = some i ∧ i.zero = some z ∧ i.size = k ∧ i.bytes = bytes) (hzs : z.cells.size = k) (hk : 0 < k)
    (base : Nat) (v : Value) (n : Nat) (xs : List Value) (hs : a.eval s = v) (hown : w.ownsRow base e k v n xs) (us : List Value) (us' : Array Value) (hus : us' = us.toArray) (hx : a.eval x = .slice (some ⟨w.heap.size, 0, none⟩) 1 1)
    (hl : us.length = k) (h1 : ∀ u ∈ us, u.oneCell' = true) (hn : n ≤ 1000000000) (hby : bytes ≤ 1000) (hbase : base ≤ w.heap.size)
    (h : ∀ v' w', w'.ownsRow base e k v' (n + 1) (xs ++ us) → (w.alloc (.cells us' e)).grownBy w' v.ownBlock → (v'.ownBlock = v.ownBlock ∨ v'.ownBlock = some (w.heap.size + 1)) → wpList P ops Q rest (a.put o.dst v') w') : wpList P ops Q (o :: rest) a (w.alloc (.cells us' e)) := by
  subst hus
  obtain ⟨i, hi, hz, hsz, hbt⟩ := hi
  refine wpList_append_own_at _ hgd s x t ho base e i z k bytes ht hi hz hsz hbt hzs hk v n xs hs (hown.alloc _) ⟨w.heap.size, 0, none⟩ 1 1 us hx (by omega) (cell_newN w us e) h1 (by unfold maxLen; omega) ?_ (by simp; omega) fun v' w' hown' hgrow _ hat => h v' w' hown' hgrow (by rw [World.size_alloc] at hat; exact hat)
  have : (n + 1) * bytes ≤ 1000000001 * 1000 := Nat.mul_le_mul (by omega) hby
  omega
def strV (s : List UInt8) : Value := .string ⟨s.toArray⟩
/-- A row of strings of the call's own. -/
def OwnS (w : World) (base : Nat) (v : Value) (op : List (List UInt8)) : Prop := w.ownsRow base 9 1 v op.length (op.map strV)
theorem OwnS.start (w : World) (base : Nat) : OwnS w base (.slice none 0 0) [] := ⟨rfl, .inl ⟨rfl, rfl⟩⟩
theorem OwnS.kept {w w' : World} {base : Nat} {v : Value} {op : List (List UInt8)} (h : OwnS w base v op) (hb : Below w.heap.size w w') : OwnS w' base v op := ownsRow_keep h fun g _ hg => hb.block g hg
theorem OwnS.form {w : World} {base : Nat} {v : Value} {op : List (List UInt8)} (h : OwnS w base v op) : ∃ A c, v = .slice A op.length c := by
  obtain ⟨hl, ⟨hv, h0⟩ | ⟨g, cap, cur, hv, r⟩⟩ := h
  · exact ⟨none, 0, by rw [hv, h0]⟩
  · exact ⟨_, cap, hv⟩
theorem OwnS.cells {w : World} {base : Nat} {ad : Addr} {n c : Nat} {op : List (List UInt8)} (h : OwnS w base (.slice (some ad) n c) op) : ∀ (j : Nat) u, (op.map strV)[j]? = some u → w.cell? (ad.add j) = some u := by
  obtain ⟨hl, ⟨hv, _⟩ | ⟨g, cap, cur, hv, hg, hh, hn, hc, hs, ht⟩⟩ := h
  · cases hv
  · injection hv with h1 h2 h3
    cases h1
    intro j u hu
    have hj : j < op.length := by have := (List.getElem?_eq_some_iff.1 hu).1; rwa [List.length_map] at this
    rw [addr_add, cell_of _ hh, Nat.zero_add]
    rw [← ht, List.getElem?_take_of_lt (by omega)] at hu
    simpa using hu
theorem OwnS.lit (w : World) (base : Nat) (hb : base ≤ w.heap.size) : OwnS (w.alloc (.cells #[] 9)) base (.slice (some ⟨w.heap.size, 0, none⟩) 0 0) [] :=
  ⟨rfl, .inr ⟨w.heap.size, 0, #[], rfl, hb, hp_new _ _, Nat.le_refl _, Nat.zero_le _, rfl, rfl⟩⟩

end Go.Proofs.YtgenpgfhjhcahaaGreatDoor
/- A graph, its ways, places that lead back. -/
namespace Go.Proofs.YtgenpgfhjhcahaaGreatDoor
open Go.ChangeShapes Go.WideShapes Go.ChangeAt Go.RowKit
set_option linter.unusedVariables false
/-- Ways of a graph: by n ways more than one. -/
def wayN (g : List (List Nat)) : Nat → Nat → Nat → Prop
  | 0, i, j => ∃ t, g[i]? = some t ∧ j ∈ t
  | n + 1, i, j => ∃ m, wayN g n i m ∧ ∃ t, g[m]? = some t ∧ j ∈ t
def Way (g : List (List Nat)) (i j : Nat) : Prop := ∃ n, wayN g n i j
theorem Way.one {g : List (List Nat)} {i j : Nat} {t : List Nat} (h : g[i]? = some t) (hj : j ∈ t) : Way g i j := ⟨0, t, h, hj⟩
theorem Way.more {g : List (List Nat)} {i j k : Nat} {t : List Nat} (h : Way g i j) (ht : g[j]? = some t) (hk : k ∈ t) : Way g i k := by
  obtain ⟨n, h⟩ := h
  exact ⟨n + 1, j, h, t, ht, hk⟩
/-- What is closed under ways holds all to which ways lead. -/
theorem Way.closed {g : List (List Nat)} {i j : Nat} {S : Nat → Prop} (h : Way g i j) (h0 : ∀ t, g[i]? = some t → ∀ k ∈ t, S k) (h1 : ∀ m t, S m → g[m]? = some t → ∀ k ∈ t, S k) : S j := by
  obtain ⟨n, h⟩ := h
  induction n generalizing j with
  | zero =>
    obtain ⟨t, ht, hj⟩ := h
    exact h0 t ht j hj
  | succ n ih =>
    obtain ⟨m, hm, t, ht, hj⟩ := h
    exact h1 m t (ih hm) ht j hj
theorem Way.lt {g : List (List Nat)} {i j : Nat} (h : Way g i j) : i < g.length := by
  by_cases hi : i < g.length
  · exact hi
  · have := Way.closed (S := fun _ => False) h (fun t ht => by rw [List.getElem?_eq_none (by omega)] at ht; cases ht) (fun m t h => h.elim)
    exact this.elim
def okG (g : List (List Nat)) : Prop := ∀ (i : Nat) (t : List Nat), g[i]? = some t → ∀ j ∈ t, j < g.length
/-- The program's: places that wait, places that were seen. -/
structure RInv (g : List (List Nat)) (src : Nat) (seen wait : List Nat) : Prop where
  len : seen.length = g.length
  a : ∀ j, (0 < seen.getD j 0 ∨ j ∈ wait) → Way g src j
  b : ∀ t, g[src]? = some t → ∀ j ∈ t, 0 < seen.getD j 0 ∨ j ∈ wait
  c : ∀ i t, 0 < seen.getD i 0 → g[i]? = some t → ∀ j ∈ t, 0 < seen.getD j 0 ∨ j ∈ wait
theorem RInv.begin (g : List (List Nat)) (src : Nat) (t : List Nat) (ht : g[src]? = some t) : RInv g src (List.replicate g.length 0) t := by
  have hz : ∀ j, (List.replicate g.length 0).getD j 0 = 0 := fun j => by rw [List.getD_eq_getElem?_getD, List.getElem?_replicate]; split <;> rfl
  refine ⟨by simp, fun j hj => ?_, fun u hu j hj => ?_, fun i u hi => ?_⟩
  · rw [hz] at hj
    rcases hj with hj | hj
    · omega
    · exact .one ht hj
  · rw [ht] at hu
    cases hu
    exact .inr hj
  · rw [hz] at hi
    omega
theorem getD_set (l : List Nat) (i v j : Nat) (hi : i < l.length) : (l.set i v).getD j 0 = if j = i then v else l.getD j 0 := by
  rw [List.getD_eq_getElem?_getD]
  split
  · rename_i h
    subst h
    rw [List.getElem?_set_self hi]
    rfl
  · rename_i h
    rw [List.getElem?_set_ne (by omega), ← List.getD_eq_getElem?_getD]
theorem RInv.next {g : List (List Nat)} {src i : Nat} {seen ws : List Nat} {t : List Nat} (hg : okG g) (h : RInv g src seen (ws ++ [i])) (ht : g[i]? = some t) :
    RInv g src (seen.set i (seen.getD i 0 + 1)) (if seen.getD i 0 = 0 then ws ++ t else ws) := by
  have hi : i < seen.length := by rw [h.len]; exact (List.getElem?_eq_some_iff.1 ht).1
  have hw : Way g src i := h.a i (.inr (by simp))
  have hold : ∀ j, (0 < seen.getD j 0 ∨ j ∈ ws ++ [i]) → 0 < (seen.set i (seen.getD i 0 + 1)).getD j 0 ∨ j ∈ (if seen.getD i 0 = 0 then ws ++ t else ws) := by
    intro j hj
    rw [getD_set _ _ _ _ hi]
    by_cases hji : j = i
    · left; rw [if_pos hji]; omega
    · rw [if_neg hji]
      rcases hj with hj | hj
      · exact .inl hj
      · right
        have : j ∈ ws := by simpa [hji] using hj
        split
        · exact List.mem_append_left _ this
        · exact this
  refine ⟨by rw [List.length_set]; exact h.len, fun j hj => ?_, fun u hu j hj => hold j (h.b u hu j hj), fun k u hk hu j hj => ?_⟩
  · rcases hj with hj | hj
    · rw [getD_set _ _ _ _ hi] at hj
      by_cases hji : j = i
      · rw [hji]; exact hw
      · rw [if_neg hji] at hj
        exact h.a j (.inl hj)
    · split at hj
      · rcases List.mem_append.1 hj with hj | hj
        · exact h.a j (.inr (List.mem_append_left _ hj))
        · exact hw.more ht hj
      · exact h.a j (.inr (List.mem_append_left _ hj))
  · rw [getD_set _ _ _ _ hi] at hk
    by_cases hki : k = i
    · subst hki
      rw [ht] at hu
      cases hu
      by_cases h0 : seen.getD k 0 = 0
      · right
        rw [if_pos h0]
        exact List.mem_append_right _ hj
      · exact hold j (h.c k t (by omega) ht j hj)
    · rw [if_neg hki] at hk
      exact hold j (h.c k u hk hu j hj)
/-- Where nothing waits, all places are seen to which ways lead. -/
theorem RInv.done {g : List (List Nat)} {src : Nat} {seen : List Nat} (h : RInv g src seen []) (j : Nat) : 0 < seen.getD j 0 ↔ Way g src j :=
  ⟨fun hj => h.a j (.inl hj), fun hw => hw.closed (S := fun j => 0 < seen.getD j 0)
    (fun t ht k hk => by rcases h.b t ht k hk with h | h; exact h; cases h)
    (fun m t hm ht k hk => by rcases h.c m t hm ht k hk with h | h; exact h; cases h)⟩
/-- The program's order: places that were told, each behind those to which its ways lead. -/
structure OInv (g : List (List Nat)) (told l : List Nat) : Prop where
  len : told.length = g.length
  cnt : told.countP (fun n => n != 0) = l.length
  t : ∀ i, told.getD i 0 ≠ 0 ↔ i ∈ l
  top : ∀ (k i : Nat), l[k]? = some i → ∀ t, g[i]? = some t → ∀ j ∈ t, j ∈ l.take k
theorem countP_zero (n : Nat) : (List.replicate n 0).countP (fun n => n != 0) = 0 := by
  induction n with
  | zero => rfl
  | succ n ih => simp [List.replicate_succ, ih]
theorem OInv.begin (g : List (List Nat)) : OInv g (List.replicate g.length 0) [] := by
  refine ⟨by simp, countP_zero _, fun i => ?_, fun k i h => by simp at h⟩
  rw [List.getD_eq_getElem?_getD, List.getElem?_replicate]
  split <;> simp
theorem countP_set : ∀ (l : List Nat) (i : Nat), i < l.length → l.getD i 0 = 0 → (l.set i 1).countP (fun n => n != 0) = l.countP (fun n => n != 0) + 1 := by
  intro l
  induction l with
  | nil => intro i h; simp at h
  | cons n l ih =>
    intro i hi h0
    cases i with
    | zero => simp at h0; subst h0; simp
    | succ i =>
      simp only [List.getD_cons_succ] at h0
      simp only [List.length_cons] at hi
      have := ih i (by omega) h0
      simp only [List.set_cons_succ, List.countP_cons, this]
      omega
theorem OInv.next {g : List (List Nat)} {told l : List Nat} {i : Nat} {t : List Nat} (h : OInv g told l) (ht : g[i]? = some t) (h0 : told.getD i 0 = 0) (hf : ∀ j ∈ t, told.getD j 0 ≠ 0) : OInv g (told.set i 1) (l ++ [i]) := by
  have hi : i < told.length := by rw [h.len]; exact (List.getElem?_eq_some_iff.1 ht).1
  refine ⟨by rw [List.length_set]; exact h.len, by rw [countP_set _ _ hi h0, h.cnt]; simp, fun j => ?_, fun k j hk u hu m hm => ?_⟩
  · rw [getD_set _ _ _ _ hi]
    by_cases hji : j = i
    · rw [if_pos hji]; simp [hji]
    · rw [if_neg hji, h.t j]; simp [hji]
  · by_cases hkl : k < l.length
    · rw [List.getElem?_append_left hkl] at hk
      rw [List.take_append_of_le_length (by omega)]
      exact h.top k j hk u hu m hm
    · have hk2 : k = l.length := by
        have := (List.getElem?_eq_some_iff.1 hk).1
        simp at this
        omega
      subst hk2
      rw [List.getElem?_append_right (Nat.le_refl _)] at hk
      simp at hk
      subst hk
      rw [ht] at hu
      cases hu
      rw [List.take_append_of_le_length (Nat.le_refl _), List.take_length]
      exact (h.t m).1 (hf m hm)
theorem OInv.no {g : List (List Nat)} {told l : List Nat} (h : OInv g told l) : ∀ (k i : Nat), l[k]? = some i → ¬ Way g i i := by
  intro k
  induction k using Nat.strongRecOn with
  | ind k ih =>
    intro i hk hw
    have hm : i ∈ l.take k := hw.closed (S := fun j => j ∈ l.take k) (fun t ht j hj => h.top k i hk t ht j hj) (fun m t hm ht j hj => by
      obtain ⟨k', hk'⟩ := List.mem_iff_getElem?.1 hm
      have hlt : k' < k := by
        have := (List.getElem?_eq_some_iff.1 hk').1
        simp at this
        omega
      rw [List.getElem?_take_of_lt hlt] at hk'
      have := h.top k' m hk' t ht j hj
      exact (List.take_subset_take_left l (by omega)) this)
    obtain ⟨k', hk'⟩ := List.mem_iff_getElem?.1 hm
    have hlt : k' < k := by
      have := (List.getElem?_eq_some_iff.1 hk').1
      simp at this
      omega
    rw [List.getElem?_take_of_lt hlt] at hk'
    exact ih k' hlt i hk' hw
/-- Where all places are told, none leads back. -/
theorem OInv.done {g : List (List Nat)} {told l : List Nat} (h : OInv g told l) (hl : l.length = g.length) (i : Nat) : ¬ Way g i i := by
  intro hw
  have hi := hw.lt
  have hc := h.cnt
  rw [hl, ← h.len, List.countP_eq_length] at hc
  have h2 : told.getD i 0 ≠ 0 := by
    have hit : i < told.length := by rw [h.len]; exact hi
    have := hc told[i] (List.getElem_mem hit)
    rw [List.getD_eq_getElem?_getD, List.getElem?_eq_getElem hit]
    simpa using this
  obtain ⟨k, hk⟩ := List.mem_iff_getElem?.1 ((h.t i).1 h2)
  exact h.no k i hk hw
end Go.Proofs.YtgenpgfhjhcahaaGreatDoor
/- References of a text; entities and their graph. -/
namespace Go.Proofs.YtgenpgfhjhcahaaGreatDoor
open Go.ChangeShapes Go.WideShapes Go.ChangeAt Go.RowKit
set_option linter.unusedVariables false
/-- An entity. -/
structure EntT where
  nm : List UInt8
  tx : List UInt8
  out : Bool
  pub : List UInt8
  sys : List UInt8
  nt : List UInt8
end Go.Proofs.YtgenpgfhjhcahaaGreatDoor
/- Rows of the call own; the document's Find. -/
namespace Go.Proofs.YtgenpgfhjhcahaaGreatDoor
open Go.ChangeShapes Go.WideShapes Go.ChangeAt Go.RowKit
set_option linter.unusedVariables false
/-- A row of the call's own, whatever its elements are. -/
def OwnC {α : Type} (c : α → List Value) (k : Nat) (e : TypeId) (w : World) (base : Nat) (v : Value) (l : List α) : Prop := w.ownsRow base e k v l.length (l.flatMap c)
section
variable {α : Type} {c : α → List Value} {k : Nat} {e : TypeId} {w w' : World} {base : Nat} {v : Value} {l : List α}
theorem OwnC.start (c : α → List Value) (k : Nat) (e : TypeId) (w : World) (base : Nat) : OwnC c k e w base (.slice none 0 0) [] := ⟨by simp, .inl ⟨rfl, rfl⟩⟩
theorem OwnC.form (h : OwnC c k e w base v l) : ∃ A cp, v = .slice A l.length cp := by
  obtain ⟨hl, ⟨hv, h0⟩ | ⟨g, cap, cur, hv, r⟩⟩ := h
  · exact ⟨none, 0, by rw [hv, h0]⟩
  · exact ⟨_, cap, hv⟩
theorem OwnC.keep (h : OwnC c k e w base v l) (hk : ∀ g, base ≤ g → g < w.heap.size → w'.heap[g]? = w.heap[g]?) : OwnC c k e w' base v l := by
  obtain ⟨hl, h2 | ⟨g, cap, cur, hv, hg, hh, r⟩⟩ := h
  · exact ⟨hl, .inl h2⟩
  · exact ⟨hl, .inr ⟨g, cap, cur, hv, hg, (hk g hg (lt_of hh)).trans hh, r⟩⟩
theorem OwnC.kept (h : OwnC c k e w base v l) (hb : Below w.heap.size w w') : OwnC c k e w' base v l := h.keep fun g _ hg => hb.block g hg
theorem OwnC.ge (h : OwnC c k e w base v l) {b : Nat} (hb : v.ownBlock = some b) : b < w.heap.size ∧ base ≤ b := by
  obtain ⟨hl, ⟨hv, _⟩ | ⟨g, cap, cur, hv, hg, hh, r⟩⟩ := h
  · rw [hv] at hb; simp [Value.ownBlock] at hb
  · rw [hv] at hb
    simp [Value.ownBlock] at hb
    subst hb
    exact ⟨lt_of hh, hg⟩
theorem OwnC.snoc {x : α} {v' : Value} (h : w'.ownsRow base e k v' (l.length + 1) (l.flatMap c ++ c x)) : OwnC c k e w' base v' (l ++ [x]) := by
  unfold OwnC
  rw [List.length_append, List.flatMap_append, List.flatMap_cons, List.flatMap_nil, List.append_nil]
  exact h
theorem OwnC.rrd (hk : ∀ x, (c x).length = k) (h0 : 0 < k) (h : OwnC c k e w base v l) : ∃ A cp, v = .slice A l.length cp ∧ RRd c k w w.heap.size A l.length cp l := RRd.ofOwn hk h0 h
theorem ownsRow_type {w : World} {B : Nat} {e : TypeId} {c n : Nat} {v : Value} {xs : List Value} (h : w.ownsRow B e c v n xs) {k : Nat} {o : Obj} (hk : w.heap[k]? = some o) (hT : ∀ vs f, o ≠ .cells vs e f) : some k ≠ v.ownBlock := by
  obtain ⟨hl, ⟨hv, _⟩ | ⟨g, cap, cur, hv, hg, hh, r⟩⟩ := h
  · rw [hv]; simp [Value.ownBlock]
  · rw [hv]
    intro e'
    simp [Value.ownBlock] at e'
    subst e'
    rw [hh] at hk
    cases hk
    exact hT _ _ rfl
/-- A row stands where a row of another type grows. -/
theorem OwnC.grown (h : OwnC c k e w base v l) {v2 : Value} {B2 c2 n2 : Nat} {e2 : TypeId} {xs2 : List Value} (h2 : w.ownsRow B2 e2 c2 v2 n2 xs2) (hne : e ≠ e2) (hg : w.grownBy w' v2.ownBlock) : OwnC c k e w' base v l := by
  obtain ⟨hl, h3 | ⟨g, cap, cur, hv, hgb, hh, r⟩⟩ := h
  · exact ⟨hl, .inl h3⟩
  · refine ⟨hl, .inr ⟨g, cap, cur, hv, hgb, ?_, r⟩⟩
    rw [hg.block g (lt_of hh) (ownsRow_type h2 hh fun vs f e' => by injection e' with _ e3 _; exact hne e3)]
    exact hh
end
end Go.Proofs.YtgenpgfhjhcahaaGreatDoor
