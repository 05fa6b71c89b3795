/- Texts of ours, joined: TokP, TokR, XrA, TagS. -/
import Derived.Test.YtmclngahdklfkaaGreatDoorRows
import Derived.WalkKit
import Derived.ProofKit
import Derived.OpenShut
import Derived.ShutString
import Derived.ChangeOld
import Derived.Below
import Derived.BigQuiet
import Derived.Deep.QuietTactic
import Derived.Lib.Hide
import Derived.Deep.RegionHeld3
import Derived.Lib.SlBytesConst
import Derived.Laws.CopyOwn
import Derived.Laws.CopyRow
import Derived.Lib.Bytes
import Derived.Deep.LoopGhost
import Derived.Deep.DeepFit
import Derived.Deep.DeepMust
import Derived.WalkSpells
import Derived.WalkLawsBesides
import Derived.Test.YtmclngahdklfkaaGreatDoorQ1
import Derived.Test.YtmclngahdklfkaaGreatDoorQ2
import Derived.Test.YtmclngahdklfkaaGreatDoorQ4
import Derived.Test.YtmclngahdklfkaaGreatDoorQ6
import Derived.Test.YtmclngahdklfkaaGreatDoorQ8
import Derived.Test.YtmclngahdklfkaaGreatDoorQ9
import Derived.Test.YtmclngahdklfkaaGreatDoorQ10
import Derived.Test.YtmclngahdklfkaaGreatDoorQ11
import Derived.Maps.OwnOps
import Derived.Maps.OwnSet
import Derived.Maps.Views
import Derived.Laws.EntriesVeiled
import Derived.Laws.Rows
import Derived.Maps.AppendAt
import Derived.Laws.RangeString
import Derived.Laws.Runes
import Derived.LoopN
import Derived.Laws.RangeAny
/- Tokens, in plain Lean. -/
namespace Go.Proofs.YtmclngahdklfkaaGreatDoor
open Go.ChangeShapes Go.WideShapes Go.ChangeAt Go.RowKit
set_option linter.unusedVariables false
/-- A token, as both sides hold it. -/
structure TokL where
  kind : Int
  fro : Int
  to_ : Int
  name : List UInt8
  text : List UInt8
  pairs : List PairL
  r : Int
def noTok : TokL := ⟨0, 0, 0, [], [], [], 0⟩
def inTx (c : UInt8) : Bool := !(decide (c = 60) || decide (c = 38))
/-- The text that stands ahead of a '<' or an '&'. -/
def txt (l : List UInt8) : List UInt8 := l.takeWhile inTx
def textTok (l : List UInt8) (k : Nat) : TokL × Nat := if Lib.contains (txt (l.drop k)) [93, 93, 62] = true then (noTok, 7) else (⟨1, 0, ((k + (txt (l.drop k)).length : Nat) : Int), [], txt (l.drop k), [], 0⟩, 0)
/-- What is read at a place that holds a byte. -/
def readTok (l : List UInt8) (k : Nat) : TokL × Nat :=
  if [60, 33, 45, 45].isPrefixOf (l.drop k) = true then (⟨5, 0, ((commentOut l k).2.1 : Int), [], (commentOut l k).1, [], 0⟩, (commentOut l k).2.2)
  else if [60, 33, 91, 67, 68, 65, 84, 65, 91].isPrefixOf (l.drop k) = true then (⟨4, 0, ((cdataOut l k).2.1 : Int), [], (cdataOut l k).1, [], 0⟩, (cdataOut l k).2.2)
  else if [60, 63].isPrefixOf (l.drop k) = true then (⟨6, 0, ((piOut l k).2.2.1 : Int), (piOut l k).1, (piOut l k).2.1, [], 0⟩, (piOut l k).2.2.2)
  else if [60, 47].isPrefixOf (l.drop k) = true then (⟨9, 0, ((closeOut l k).2.1 : Int), (closeOut l k).1, [], [], 0⟩, (closeOut l k).2.2)
  else if [60].isPrefixOf (l.drop k) = true then (⟨if (openOut l k).1.empty = true then 8 else 7, 0, ((openOut l k).2.1 : Int), (openOut l k).1.name, [], (openOut l k).1.pairs, 0⟩, (openOut l k).2.2)
  else if [38, 35].isPrefixOf (l.drop k) = true then (⟨2, 0, ((charOut l k).2.1 : Int), [], [], [], (charOut l k).1⟩, (charOut l k).2.2)
  else if [38].isPrefixOf (l.drop k) = true then (⟨3, 0, ((refOut 38 l k).2.1 : Int), (refOut 38 l k).1, [], [], 0⟩, (refOut 38 l k).2.2)
  else textTok l k
def nextOut (l : List UInt8) (k : Nat) : TokL × Nat := if (readTok l k).2 = 0 then ({ (readTok l k).1 with fro := (k : Int) }, 0) else (noTok, (readTok l k).2)
/-- The token at any place. -/
def nextAt (l : List UInt8) (at_ : Int) : TokL × Nat := if at_ < 0 ∨ (l.length : Int) < at_ then (noTok, 3) else if at_ = (l.length : Int) then (noTok, 4) else nextOut l at_.toNat
theorem plain_ok (l : List UInt8) (k : Nat) (hk : k ≤ l.length) (h : (plainOut l k).2.2 = 0) : k < (plainOut l k).2.1 ∧ (plainOut l k).2.1 ≤ l.length := by
  have hle := endL_le l.length (noColon isStart) (noColon isMore) (l.drop k)
  rw [List.length_drop] at hle
  unfold plainOut at h ⊢
  simp only at h ⊢
  split
  · rename_i h0; rw [if_pos h0] at h; cases h
  · rename_i h0
    rw [if_neg h0] at h
    split
    · rename_i h1; rw [if_pos h1] at h; cases h
    · exact ⟨by simp only; omega, by simp only; omega⟩
theorem comment_ok (l : List UInt8) (k : Nat) (h : (commentOut l k).2.2 = 0) : k < (commentOut l k).2.1 ∧ (commentOut l k).2.1 ≤ l.length := by
  unfold commentOut at h ⊢
  split
  · rename_i h1; rw [if_pos h1] at h; cases h
  · rename_i h1
    rw [if_neg h1] at h
    split
    · rename_i h2; rw [if_pos h2] at h; cases h
    · rename_i h2
      rw [if_neg h2] at h
      split
      · rename_i h3
        have hk : k + 4 ≤ l.length := by
          have h1' : [60, 33, 45, 45].isPrefixOf (l.drop k) = true := by simpa using h1
          rcases pre_len h1' with e | e
          · cases e
          · simpa using e
        rcases findI_spec l [45, 45] (k + 4) hk with ⟨h', _⟩ | ⟨i, h', hki, _, _, _⟩
        · omega
        · rw [h'] at h3 ⊢
          rw [Int.toNat_natCast] at h3 ⊢
          rcases pre_len h3 with e | e
          · cases e
          · simp only [List.length_cons, List.length_nil] at e
            exact ⟨by show k < i + 3; omega, e⟩
      · rename_i h3; rw [if_neg h3] at h; cases h
theorem cdata_ok (l : List UInt8) (k : Nat) (h : (cdataOut l k).2.2 = 0) : k < (cdataOut l k).2.1 ∧ (cdataOut l k).2.1 ≤ l.length := by
  unfold cdataOut at h ⊢
  split
  · rename_i h1; rw [if_pos h1] at h; cases h
  · rename_i h1
    rw [if_neg h1] at h
    split
    · rename_i h2; rw [if_pos h2] at h; cases h
    · rename_i h2
      have hk : k + 9 ≤ l.length := by
        have h1' : [60, 33, 91, 67, 68, 65, 84, 65, 91].isPrefixOf (l.drop k) = true := by simpa using h1
        rcases pre_len h1' with e | e
        · cases e
        · simpa using e
      rcases findI_spec l [93, 93, 62] (k + 9) hk with ⟨h', _⟩ | ⟨i, h', hki, hil, _, _⟩
      · omega
      · rw [h', Int.toNat_natCast]
        exact ⟨by show k < i + 3; omega, by simpa using hil⟩
theorem pi_ok (l : List UInt8) (k : Nat) (hk : k ≤ l.length) (h : (piOut l k).2.2.2 = 0) : k < (piOut l k).2.2.1 ∧ (piOut l k).2.2.1 ≤ l.length := by
  unfold piOut at h ⊢
  split
  · rename_i h1; rw [if_pos h1] at h; cases h
  · rename_i h1
    rw [if_neg h1] at h
    have hk2 : k + 2 ≤ l.length := by
      have h1' : [60, 63].isPrefixOf (l.drop k) = true := by simpa using h1
      rcases pre_len h1' with e | e
      · cases e
      · simpa using e
    unfold piRest at h ⊢
    split
    · rename_i h2; rw [if_pos h2] at h; exact absurd h h2
    · rename_i h2
      rw [if_neg h2] at h
      split
      · rename_i h3; rw [if_pos h3] at h; cases h
      · rename_i h3
        rw [if_neg h3] at h
        split
        · rename_i h4; rw [if_pos h4] at h; cases h
        · rename_i h4
          have hp := plain_ok l (k + 2) hk2 (by simpa using h2)
          have hb := blankTo_le l _ hp.2
          rcases findI_spec l [63, 62] (blankTo l (plainOut l (k + 2)).2.1) hb.2 with ⟨h', _⟩ | ⟨i, h', hki, hil, _, _⟩
          · omega
          · rw [h', Int.toNat_natCast]
            exact ⟨by show k < i + 2; omega, by simpa using hil⟩
theorem close_ok (l : List UInt8) (k : Nat) (h : (closeOut l k).2.2 = 0) : k < (closeOut l k).2.1 ∧ (closeOut l k).2.1 ≤ l.length := by
  unfold closeOut at h ⊢
  split
  · rename_i h1
    rw [if_pos h1] at h
    have hk : k + 2 ≤ l.length := by
      rcases pre_len h1 with e | e
      · cases e
      · simpa using e
    split
    · rename_i h2; rw [if_pos h2] at h; exact absurd h h2
    · rename_i h2
      rw [if_neg h2] at h
      have hn := nameOut_ok l (k + 2) hk (by simpa using h2)
      split
      · rename_i h3
        have hb := blankTo_le l _ hn.2.1
        rcases pre_len h3 with e | e
        · cases e
        · simp only [List.length_cons, List.length_nil] at e
          exact ⟨by show k < blankTo l _ + 1; omega, e⟩
      · rename_i h3; rw [if_neg h3] at h; cases h
  · rename_i h1; rw [if_neg h1] at h; cases h
theorem pairsR_ge (l : List UInt8) : ∀ (f : Nat) (acc : List PairL) (t : Nat), t ≤ l.length → l.length + 1 ≤ f + t → (pairsR l f acc t).2.2 = 0 → t ≤ (pairsR l f acc t).2.1
  | 0, acc, t, ht, hf, _ => by omega
  | f + 1, acc, t, ht, hf, h => by
    cases hs : stopB l (blankTo l t) t with
    | true => rw [pairs_stop hs]; exact Nat.le_refl _
    | false =>
      by_cases he : (pairOut l (blankTo l t)).2.2 = 0
      · cases hh : hasN acc (pairOut l (blankTo l t)).1.1 with
        | true => rw [pairs_twice hs he hh] at h; cases h
        | false =>
          rw [pairs_more hs he hh] at h ⊢
          have hb := blankTo_le l t ht
          have hp := pairOut_ok l (blankTo l t) hb.2 he
          have := pairsR_ge l f (acc ++ [(pairOut l (blankTo l t)).1]) (pairOut l (blankTo l t)).2.1 hp.2.1 (by omega) h
          omega
      · rw [pairs_bad hs rfl he] at h
        exact absurd h he
theorem open_ok (l : List UInt8) (k : Nat) (h : (openOut l k).2.2 = 0) : k < (openOut l k).2.1 ∧ (openOut l k).2.1 ≤ l.length := by
  unfold openOut at h ⊢
  split
  · rename_i h1
    rw [if_pos h1] at h
    have hk : k + 1 ≤ l.length := (List.getElem?_eq_some_iff.1 h1).1
    split
    · rename_i h2; rw [if_pos h2] at h; exact absurd h h2
    · rename_i h2
      rw [if_neg h2] at h
      have hn := nameOut_ok l (k + 1) hk (by simpa using h2)
      split
      · rename_i h3; rw [if_pos h3] at h; exact absurd h h3
      · rename_i h3
        rw [if_neg h3] at h
        have hp1 := pairsOut_le l _ hn.2.1
        have hp2 := pairsR_ge l (l.length + 1) [] _ hn.2.1 (by omega) (by simpa [pairsOut] using h3)
        have hp3 : (nameOut l (k + 1)).2.1 ≤ (pairsOut l (nameOut l (k + 1)).2.1).2.1 := hp2
        have hb := blankTo_le l _ hp1
        split
        · rename_i h4
          rcases pre_len h4 with e | e
          · cases e
          · simp only [List.length_cons, List.length_nil] at e
            exact ⟨by show k < blankTo l _ + 2; omega, e⟩
        · rename_i h4
          rw [if_neg h4] at h
          split
          · rename_i h5
            rcases pre_len h5 with e | e
            · cases e
            · simp only [List.length_cons, List.length_nil] at e
              exact ⟨by show k < blankTo l _ + 1; omega, e⟩
          · rename_i h5; rw [if_neg h5] at h; cases h
  · rename_i h1; rw [if_neg h1] at h; cases h
theorem charBody_ok (b cap : Int) (l : List UInt8) (k : Nat) (h : (charBody b cap l k).2.2 = 0) : k < (charBody b cap l k).2.1 ∧ (charBody b cap l k).2.1 ≤ l.length := by
  unfold charBody at h ⊢
  simp only at h ⊢
  split
  · rename_i h1; rw [if_pos h1] at h; cases h
  · rename_i h1
    rw [if_neg h1] at h
    split
    · rw [not_or] at h1
      have h2 : l[k + (digs b (l.drop k)).length]? = some 59 := by simpa using h1.2
      have := (List.getElem?_eq_some_iff.1 h2).1
      exact ⟨by simp only; omega, by simp only; omega⟩
    · rename_i h2; rw [if_neg h2] at h; cases h
theorem char_ok (l : List UInt8) (k : Nat) (h : (charOut l k).2.2 = 0) : k < (charOut l k).2.1 ∧ (charOut l k).2.1 ≤ l.length := by
  unfold charOut at h ⊢
  split
  · rename_i h1
    rw [if_pos h1] at h
    split
    · rename_i h2
      rw [if_pos h2] at h
      have := charBody_ok _ _ _ _ h
      omega
    · rename_i h2
      rw [if_neg h2] at h
      have := charBody_ok _ _ _ _ h
      omega
  · rename_i h1; rw [if_neg h1] at h; cases h
theorem ref_ok (m : UInt8) (l : List UInt8) (k : Nat) (h : (refOut m l k).2.2 = 0) : k < (refOut m l k).2.1 ∧ (refOut m l k).2.1 ≤ l.length := by
  unfold refOut at h ⊢
  cases hc : l[k]? with
  | none => rw [hc] at h; cases h
  | some c =>
    rw [hc] at h
    simp only at h ⊢
    have hk := (List.getElem?_eq_some_iff.1 hc).1
    split
    · rename_i h1
      rw [if_pos h1] at h
      split
      · rename_i h2; rw [if_pos h2] at h; exact absurd h h2
      · rename_i h2
        rw [if_neg h2] at h
        have hp := plain_ok l (k + 1) hk (by simpa using h2)
        cases hd : l[(plainOut l (k + 1)).2.1]? with
        | none => rw [hd] at h; cases h
        | some d =>
          rw [hd] at h
          simp only at h ⊢
          have hl := (List.getElem?_eq_some_iff.1 hd).1
          split
          · exact ⟨by simp only; omega, by simp only; omega⟩
          · rename_i h3; rw [if_neg h3] at h; cases h
    · rename_i h1; rw [if_neg h1] at h; cases h
theorem txt_le (l : List UInt8) : (txt l).length ≤ l.length := (List.takeWhile_prefix (p := inTx) (l := l)).length_le
theorem txt_cons {c : UInt8} {t : List UInt8} (h : inTx c = true) : txt (c :: t) = c :: txt t := by simp [txt, h]
theorem txt_stop {c : UInt8} {t : List UInt8} (h : inTx c = false) : txt (c :: t) = [] := by simp [txt, h]
/-- A token that is read goes on from its place, and lies within. -/
theorem readTok_ok (l : List UInt8) (k : Nat) (hk : k < l.length) (h : (readTok l k).2 = 0) : ∃ t : Nat, (readTok l k).1.to_ = (t : Int) ∧ k < t ∧ t ≤ l.length := by
  unfold readTok at h ⊢
  split
  · rename_i h1; rw [if_pos h1] at h; exact ⟨_, rfl, comment_ok l k h⟩
  · rename_i h1
    rw [if_neg h1] at h
    split
    · rename_i h1; rw [if_pos h1] at h; exact ⟨_, rfl, cdata_ok l k h⟩
    · rename_i h1
      rw [if_neg h1] at h
      split
      · rename_i h1; rw [if_pos h1] at h; exact ⟨_, rfl, pi_ok l k (Nat.le_of_lt hk) h⟩
      · rename_i h1
        rw [if_neg h1] at h
        split
        · rename_i h1; rw [if_pos h1] at h; exact ⟨_, rfl, close_ok l k h⟩
        · rename_i h1
          rw [if_neg h1] at h
          split
          · rename_i h1; rw [if_pos h1] at h; exact ⟨_, rfl, open_ok l k h⟩
          · rename_i h60
            rw [if_neg h60] at h
            split
            · rename_i h1; rw [if_pos h1] at h; exact ⟨_, rfl, char_ok l k h⟩
            · rename_i h1
              rw [if_neg h1] at h
              split
              · rename_i h1; rw [if_pos h1] at h; exact ⟨_, rfl, ref_ok 38 l k h⟩
              · rename_i h38
                rw [if_neg h38] at h
                unfold textTok at h ⊢
                split
                · rename_i h1; rw [if_pos h1] at h; cases h
                · have hd : l.drop k = l[k] :: l.drop (k + 1) := List.drop_eq_getElem_cons hk
                  have hin : inTx l[k] = true := by
                    rw [pre_one, List.getElem?_eq_getElem hk] at h60 h38
                    have n60 : l[k] ≠ 60 := by simpa using h60
                    have n38 : l[k] ≠ 38 := by simpa using h38
                    simp [inTx, n60, n38]
                  have h1 : 0 < (txt (l.drop k)).length := by rw [hd, txt_cons hin]; simp
                  have h2 := txt_le (l.drop k)
                  rw [List.length_drop] at h2
                  exact ⟨_, rfl, by omega, by omega⟩
theorem nextOut_ok (l : List UInt8) (k : Nat) (hk : k < l.length) (h : (nextOut l k).2 = 0) : (nextOut l k).1.fro = (k : Int) ∧ ∃ t : Nat, (nextOut l k).1.to_ = (t : Int) ∧ k < t ∧ t ≤ l.length := by
  unfold nextOut at h ⊢
  split
  · rename_i h1; exact ⟨rfl, readTok_ok l k hk h1⟩
  · rename_i h1; rw [if_neg h1] at h; exact absurd h h1
/-- All tokens from a place on, behind those read so far. -/
def allR (l : List UInt8) : Nat → List TokL → Nat → List TokL × Nat × Nat
  | 0, _, _ => ([], 0, 0)
  | f + 1, acc, t => if t < l.length then (if (nextOut l t).2 = 0 then allR l f (acc ++ [(nextOut l t).1]) (nextOut l t).1.to_.toNat else ([], t, (nextOut l t).2)) else (acc, t, 0)
def allOut (l : List UInt8) : List TokL × Nat × Nat := allR l (l.length + 1) [] 0
theorem all_end {l : List UInt8} {f t : Nat} {acc : List TokL} (h : ¬ t < l.length) : allR l (f + 1) acc t = (acc, t, 0) := by rw [allR, if_neg h]
theorem all_bad {l : List UInt8} {f t : Nat} {acc : List TokL} (h : t < l.length) {e : Nat} (he : (nextOut l t).2 = e) (h0 : e ≠ 0) : allR l (f + 1) acc t = ([], t, e) := by
  rw [allR, if_pos h, if_neg (by rw [he]; exact h0), he]
theorem all_more {l : List UInt8} {f t u : Nat} {acc : List TokL} {k : TokL} (h : t < l.length) (he : nextOut l t = (k, 0)) (hu : k.to_ = (u : Int)) : allR l (f + 1) acc t = allR l f (acc ++ [k]) u := by
  rw [allR, if_pos h, if_pos (by rw [he]), he, hu, Int.toNat_natCast]
end Go.Proofs.YtmclngahdklfkaaGreatDoor
/- Rows of tokens where they lie. -/
namespace Go.Proofs.YtmclngahdklfkaaGreatDoor
open Go.ChangeShapes Go.WideShapes Go.ChangeAt Go.RowKit
set_option linter.unusedVariables false
/-- A token where it lies, its row of attributes with it. -/
structure TokV where
  t : TokL
  A : Option Addr
  n : Nat
  c : Nat
def TokV.cells (v : TokV) : List Value := [.int .i64 v.t.kind, .int .i64 v.t.fro, .int .i64 v.t.to_, .string ⟨v.t.name.toArray⟩, .string ⟨v.t.text.toArray⟩, .slice v.A v.n v.c, .int .i64 v.t.r]
def cellsK (vs : List TokV) : List Value := vs.flatMap TokV.cells
theorem cellsK_length (vs : List TokV) : (cellsK vs).length = vs.length * 7 := by
  induction vs with
  | nil => rfl
  | cons v vs ih =>
    have : cellsK (v :: vs) = v.cells ++ cellsK vs := rfl
    rw [this, List.length_append, ih]
    simp [TokV.cells]
    omega
theorem cellsK_snoc (vs : List TokV) (v : TokV) : cellsK (vs ++ [v]) = cellsK vs ++ v.cells := by simp [cellsK]
theorem cellsK_get : ∀ (vs : List TokV) (i : Nat) (v : TokV), vs[i]? = some v → ∀ (j : Nat) u, v.cells[j]? = some u → (cellsK vs)[i * 7 + j]? = some u
  | [], i, v, h, j, u, hu => by simp at h
  | x :: vs, 0, v, h, j, u, hu => by
    simp at h
    subst h
    have e : cellsK (x :: vs) = x.cells ++ cellsK vs := rfl
    have hj : j < x.cells.length := (List.getElem?_eq_some_iff.1 hu).1
    rw [e, Nat.zero_mul, Nat.zero_add, List.getElem?_append_left hj]
    exact hu
  | x :: vs, i + 1, v, h, j, u, hu => by
    have e : cellsK (x :: vs) = x.cells ++ cellsK vs := rfl
    have hx : x.cells.length = 7 := rfl
    rw [e, List.getElem?_append_right (by rw [hx]; omega), hx, show (i + 1) * 7 + j - 7 = i * 7 + j by omega]
    exact cellsK_get vs i v (by simpa using h) j u hu
/-- A row of tokens that can be read. -/
structure TRd (w : World) (B : Nat) (A : Option Addr) (n cap : Nat) (vs : List TokV) : Prop where
  len : vs.length = n
  le : n ≤ cap
  fit : cap ≤ maxLen
  nil : A = none → cap = 0
  at_ : 0 < cap → ∃ b o, A = some ⟨b, o, none⟩ ∧ b < B ∧ ∀ i v, vs[i]? = some v → ∀ (j : Nat) u, v.cells[j]? = some u → w.cell? ⟨b, o + (i * 7 + j), none⟩ = some u
  prs : ∀ v ∈ vs, PRd w B v.A v.n v.c v.t.pairs
theorem TRd.keep {w w' : World} {B n cap : Nat} {A : Option Addr} {vs : List TokV} (h : TRd w B A n cap vs) (hk : ∀ p : Addr, p.block < B → w'.cell? p = w.cell? p) : TRd w' B A n cap vs :=
  ⟨h.len, h.le, h.fit, h.nil, fun h0 => by
    obtain ⟨b, o, e, hb, hc⟩ := h.at_ h0
    exact ⟨b, o, e, hb, fun i v hv j u hu => (hk ⟨b, _, none⟩ hb).trans (hc i v hv j u hu)⟩, fun v hv => (h.prs v hv).keep hk⟩
theorem TRd.more {w : World} {B B' n cap : Nat} {A : Option Addr} {vs : List TokV} (h : TRd w B A n cap vs) (hB : B ≤ B') : TRd w B' A n cap vs :=
  ⟨h.len, h.le, h.fit, h.nil, fun h0 => by
    obtain ⟨b, o, e, hb, hc⟩ := h.at_ h0
    exact ⟨b, o, e, by omega, hc⟩, fun v hv => (h.prs v hv).more hB⟩
theorem TRd.below {w w' : World} {B n cap : Nat} {A : Option Addr} {vs : List TokV} (h : TRd w B A n cap vs) (hb : Below B w w') : TRd w' B A n cap vs := h.keep fun p hp => hb.cell hp
theorem TRd.up {w w' : World} {n cap : Nat} {A : Option Addr} {vs : List TokV} (h : TRd w w.heap.size A n cap vs) (hb : Below w.heap.size w w') : TRd w' w'.heap.size A n cap vs := (h.below hb).more hb.size
theorem TRd.drewN {w : World} {B n cap k : Nat} {A : Option Addr} {vs : List TokV} (h : TRd w B A n cap vs) : TRd (w.drewN k) B A n cap vs := h.keep (w' := w.drewN k) fun _ _ => rfl
theorem TRd.nilR (w : World) (B : Nat) : TRd w B none 0 0 [] := ⟨rfl, Nat.le_refl _, Nat.zero_le _, fun _ => rfl, fun h => absurd h (by omega), fun v hv => by cases hv⟩
theorem TRd.ofOwn {w : World} {base : Nat} {e : TypeId} {v : Value} {n : Nat} {vs : List TokV} (h : w.ownsRow base e 7 v n (cellsK vs)) (hp : ∀ v ∈ vs, PRd w w.heap.size v.A v.n v.c v.t.pairs) : ∃ A c, v = .slice A n c ∧ TRd w w.heap.size A n c vs := by
  obtain ⟨hl, h2 | ⟨g, cap, cur, hv, hg, hh, hn, hc, hs, ht⟩⟩ := h
  · obtain ⟨hv, hn⟩ := h2
    subst hn
    rw [cellsK_length] at hl
    have : vs = [] := List.length_eq_zero_iff.1 (by omega)
    subst this
    exact ⟨none, 0, hv, TRd.nilR w _⟩
  · rw [cellsK_length] at hl
    refine ⟨_, cap, hv, by omega, hn, hc, (fun e => by cases e), fun _ => ⟨g, 0, rfl, lt_of hh, fun i p hp j u hu => ?_⟩, hp⟩
    have hi : i < vs.length := (List.getElem?_eq_some_iff.1 hp).1
    have hj : j < 7 := (List.getElem?_eq_some_iff.1 hu).1
    have hcp := cellsK_get vs i p hp j u hu
    rw [← ht, List.getElem?_take_of_lt (by omega)] at hcp
    rw [cell_of _ hh, Nat.zero_add]
    simpa using hcp
/-- The token at a place of a row: its seven cells, its attributes. -/
theorem TRd.cell {w : World} {B n cap : Nat} {A : Option Addr} {vs : List TokV} {i : Nat} (h : TRd w B A n cap vs) (hi : i < n) :
    ∃ b o v, A = some ⟨b, o, none⟩ ∧ b < B ∧ vs[i]? = some v ∧ (∀ (j : Nat) u, v.cells[j]? = some u → w.cell? ⟨b, o + (i * 7 + j), none⟩ = some u) ∧ PRd w B v.A v.n v.c v.t.pairs := by
  obtain ⟨b, o, e, hb, hc⟩ := h.at_ (by have := h.le; omega)
  have hl : i < vs.length := by rw [h.len]; exact hi
  have hp := List.getElem?_eq_getElem hl
  exact ⟨b, o, vs[i], e, hb, hp, hc i _ hp, h.prs _ (List.mem_of_getElem? hp)⟩
theorem cell_newN (w : World) (us : List Value) (T : TypeId) : ∀ (j : Nat) (v : Value), us[j]? = some v → (w.alloc (.cells us.toArray T)).cell? ((⟨w.heap.size, 0, none⟩ : Addr).add j) = some v := by
  intro j v hv
  rw [addr_add, cell_of _ (hp_new _ _)]
  simpa using hv
/-- While a row of tokens grows: below w all as it was; the row's own block from base on; the tokens' attributes elsewhere. -/
structure GrowT (T : TypeId) (w wr : World) (base : Nat) (v : Value) (vs : List TokV) : Prop where
  below : Below w.heap.size w wr
  base0 : w.heap.size ≤ base
  base1 : base ≤ wr.heap.size
  own : wr.ownsRow base T 7 v vs.length (cellsK vs)
  prs : ∀ x ∈ vs, PRd wr wr.heap.size x.A x.n x.c x.t.pairs
  off : ∀ x ∈ vs, 0 < x.c → ∀ b i, x.A = some ⟨b, i, none⟩ → some b ≠ v.ownBlock
theorem GrowT.start (T : TypeId) (w : World) : GrowT T w w w.heap.size (.slice none 0 0) [] :=
  ⟨Below.refl _ _, Nat.le_refl _, Nat.le_refl _, ⟨rfl, .inl ⟨rfl, rfl⟩⟩, fun x hx => (by cases hx), fun x hx => (by cases hx)⟩
theorem ownBlock_lt {w : World} {base : Nat} {e : TypeId} {c n : Nat} {v : Value} {xs : List Value} (h : w.ownsRow base e c v n xs) {b : Nat} (hb : v.ownBlock = some b) : b < w.heap.size ∧ base ≤ b := by
  obtain ⟨hl, ⟨hv, _⟩ | ⟨g, cap, cur, hv, hg, hh, r⟩⟩ := h
  · rw [hv] at hb; simp [Value.ownBlock] at hb
  · rw [hv] at hb; simp [Value.ownBlock] at hb; subst hb; exact ⟨lt_of hh, hg⟩
theorem GrowT.kept {T : TypeId} {w wr w' : World} {base : Nat} {v : Value} {vs : List TokV} (h : GrowT T w wr base v vs) (hb : Below wr.heap.size wr w') : GrowT T w w' base v vs :=
  ⟨h.below.trans (hb.mono h.below.size), h.base0, by have := h.base1; have := hb.size; omega, ownsRow_keep h.own fun g _ hg => hb.block g hg, fun x hx => ((h.prs x hx).below hb).more hb.size, h.off⟩
theorem PRd.moveC {w w' : World} {B B' n cap : Nat} {A : Option Addr} {ps : List PairL} (h : PRd w B A n cap ps) (hB : B ≤ B') (hk : 0 < cap → ∀ b i, A = some ⟨b, i, none⟩ → b < B → w'.heap[b]? = w.heap[b]?) : PRd w' B' A n cap ps := by
  by_cases h0 : 0 < cap
  · exact h.move hB (hk h0)
  · exact ⟨h.len, h.le, h.fit, h.nil, fun h1 => absurd h1 h0⟩
/-- One token more: its attributes lie in no block of the row's. -/
theorem GrowT.appended {T : TypeId} {w wr w' : World} {base : Nat} {v v' : Value} {vs : List TokV} {x : TokV} {us : Array Value} (h : GrowT T w wr base v vs) (hx : PRd wr wr.heap.size x.A x.n x.c x.t.pairs) (hoff : 0 < x.c → ∀ b i, x.A = some ⟨b, i, none⟩ → some b ≠ v.ownBlock)
    (hown : w'.ownsRow base T 7 v' (vs.length + 1) (cellsK vs ++ x.cells)) (hg : (wr.alloc (.cells us T)).grownBy w' v.ownBlock) (hat : v'.ownBlock = v.ownBlock ∨ v'.ownBlock = some (wr.heap.size + 1)) : GrowT T w w' base v' (vs ++ [x]) := by
  have hsz := hg.size
  rw [World.size_alloc] at hsz
  have hbl : ∀ b, b < wr.heap.size → some b ≠ v.ownBlock → w'.heap[b]? = wr.heap[b]? := fun b hb hne => by
    rw [hg.block b (by rw [World.size_alloc]; omega) hne, Below.heap_alloc _ _ _ hb]
  have hpr : ∀ y : TokV, PRd wr wr.heap.size y.A y.n y.c y.t.pairs → (0 < y.c → ∀ b i, y.A = some ⟨b, i, none⟩ → some b ≠ v.ownBlock) → PRd w' w'.heap.size y.A y.n y.c y.t.pairs := fun y hy ho =>
    hy.moveC (by omega) fun h0 b i hA hb => hbl b hb (ho h0 b i hA)
  have hof : ∀ y : TokV, PRd wr wr.heap.size y.A y.n y.c y.t.pairs → (0 < y.c → ∀ b i, y.A = some ⟨b, i, none⟩ → some b ≠ v.ownBlock) → 0 < y.c → ∀ b i, y.A = some ⟨b, i, none⟩ → some b ≠ v'.ownBlock := fun y hy ho h0 b i hA => by
    rcases hat with e | e
    · rw [e]; exact ho h0 b i hA
    · rw [e]
      intro hh
      obtain ⟨b2, o, e2, hb2, _⟩ := hy.at_ h0
      rw [hA] at e2
      cases e2
      cases hh
      omega
  refine ⟨(h.below.alloc h.below.size (.cells us T)).grown hg (by rw [World.size_alloc]; have := h.below.size; omega) fun k hk => ?_, h.base0, by have := h.base1; omega, by rw [List.length_append, cellsK_snoc]; exact hown, ?_, ?_⟩
  · exact Nat.le_trans h.base0 (ownBlock_lt h.own hk).2
  · intro y hy
    rcases List.mem_append.1 hy with hy | hy
    · exact hpr y (h.prs y hy) (h.off y hy)
    · rw [List.mem_singleton] at hy; subst hy; exact hpr y hx hoff
  · intro y hy
    rcases List.mem_append.1 hy with hy | hy
    · exact hof y (h.prs y hy) (h.off y hy)
    · rw [List.mem_singleton] at hy; subst hy; exact hof y hx hoff
end Go.Proofs.YtmclngahdklfkaaGreatDoor
/- strings.IndexRune of two ASCII bytes at a wide rune. -/
namespace Go.Proofs.YtmclngahdklfkaaGreatDoor
open Go.ChangeShapes Go.WideShapes Go.ChangeAt Go.RowKit
set_option linter.unusedVariables false
theorem enc_cases (r : Int) (h : 128 ≤ r) : (∃ a b : UInt8, Utf8.encode r = ⟨#[a, b]⟩ ∧ 128 ≤ b.toNat) ∨ (∃ a b c : UInt8, Utf8.encode r = ⟨#[a, b, c]⟩) ∨ ∃ a b c d : UInt8, Utf8.encode r = ⟨#[a, b, c, d]⟩ := by
  unfold Utf8.encode
  have hc : 128 ≤ (if Utf8.valid r = true then r.toNat else Utf8.runeError) := by
    split
    · omega
    · decide
  simp only
  generalize (if Utf8.valid r = true then r.toNat else Utf8.runeError) = c at *
  rw [if_neg (by omega)]
  split
  · refine Or.inl ⟨_, _, rfl, ?_⟩
    simp
    omega
  · split
    · exact Or.inr (Or.inl ⟨_, _, _, rfl⟩)
    · exact Or.inr (Or.inr ⟨_, _, _, _, rfl⟩)
end Go.Proofs.YtmclngahdklfkaaGreatDoor
/- What strings.IndexAny answers of two signs; no condition. -/
namespace Go.Proofs.YtmclngahdklfkaaGreatDoor
open Go.ChangeShapes Go.WideShapes Go.ChangeAt Go.RowKit
set_option linter.unusedVariables false
theorem get_plus (s : ByteArray) (p : Nat) (h : p < s.size) : s.get! p = s[p]'h := by
  simp [ByteArray.get!, getElem!_pos, h]
  rfl
/-- The bytes that a character takes which begins with a byte from 128 up are all so. -/
theorem decode_span (s : ByteArray) (pos : Nat) (h : pos < s.size) (ha : 128 ≤ (s[pos]'h).toNat) :
    pos + (Utf8.decode s pos).2 ≤ s.size ∧ ∀ j, pos ≤ j → j < pos + (Utf8.decode s pos).2 → ∃ hj : j < s.size, 128 ≤ (s[j]'hj).toNat := by
  have h0 : (s.get! (pos + 0)).toNat = (s[pos]'h).toNat := by rw [Nat.add_zero, get_plus s pos h]
  have hc : ∀ k, (pos + k < s.size && (s.get! (pos + k)).toNat / 64 == 2) = true → ∃ hj : pos + k < s.size, 128 ≤ (s[pos + k]'hj).toNat := by
    intro k hk
    simp only [Bool.and_eq_true, decide_eq_true_eq, beq_iff_eq] at hk
    refine ⟨hk.1, ?_⟩
    have := hk.2
    rw [get_plus s _ hk.1] at this
    omega
  have one : pos + 1 ≤ s.size ∧ ∀ j, pos ≤ j → j < pos + 1 → ∃ hj : j < s.size, 128 ≤ (s[j]'hj).toNat := by
    refine ⟨h, fun j h1 h2 => ?_⟩
    obtain rfl : j = pos := by omega
    exact ⟨h, ha⟩
  unfold Utf8.decode
  simp only
  rw [if_neg (by rw [h0]; omega)]
  split
  · rename_i h1
    rw [Bool.and_eq_true] at h1
    obtain ⟨a1, b1⟩ := hc 1 h1.2
    split
    · refine ⟨by simp only; omega, fun j h2 h3 => ?_⟩
      simp only at h3
      rcases (by omega : j = pos ∨ j = pos + 1) with rfl | rfl
      · exact ⟨h, ha⟩
      · exact ⟨a1, b1⟩
    · exact one
  · split
    · rename_i h1
      simp only [Bool.and_eq_true] at h1
      obtain ⟨a1, b1⟩ := hc 1 (by simpa using h1.1.2)
      obtain ⟨a2, b2⟩ := hc 2 (by simpa using h1.2)
      split
      · refine ⟨by simp only; omega, fun j h2 h3 => ?_⟩
        simp only at h3
        rcases (by omega : j = pos ∨ j = pos + 1 ∨ j = pos + 2) with rfl | rfl | rfl
        · exact ⟨h, ha⟩
        · exact ⟨a1, b1⟩
        · exact ⟨a2, b2⟩
      · exact one
    · split
      · rename_i h1
        simp only [Bool.and_eq_true] at h1
        obtain ⟨a1, b1⟩ := hc 1 (by simpa using h1.1.1.2)
        obtain ⟨a2, b2⟩ := hc 2 (by simpa using h1.1.2)
        obtain ⟨a3, b3⟩ := hc 3 (by simpa using h1.2)
        split
        · refine ⟨by simp only; omega, fun j h2 h3 => ?_⟩
          simp only at h3
          rcases (by omega : j = pos ∨ j = pos + 1 ∨ j = pos + 2 ∨ j = pos + 3) with rfl | rfl | rfl | rfl
          · exact ⟨h, ha⟩
          · exact ⟨a1, b1⟩
          · exact ⟨a2, b2⟩
          · exact ⟨a3, b3⟩
        · exact one
      · exact one
/-- A string's iterator in block b, at whatever world. -/
def itW (W : World) (b : Nat) (s : ByteArray) (p : Nat) : World := { W with heap := W.heap.setIfInBounds b (.stringIter s p) }
theorem itW_at {W : World} {b p q : Nat} {s : ByteArray} (h : W.heap[b]? = some (.stringIter s q)) : (itW W b s p).heap[b]? = some (.stringIter s p) := by
  have hb : b < W.heap.size := (Array.getElem?_eq_some_iff.1 h).1
  simp [itW, hb]
theorem itW_below {W : World} {b p : Nat} {s : ByteArray} : Below b W (itW W b s p) := ⟨rfl, rfl, rfl, by simp [itW], fun k hk => by simp [itW, show ¬ b = k by omega]⟩
theorem run_next_at (W : World) (b : Nat) (s : ByteArray) (pos : Nat) (ty : TypeId) (hb : W.heap[b]? = some (.stringIter s pos)) (h : pos < s.size) :
    (Instr.next (.pointer (some ⟨b, 0, none⟩)) true ty).run Tryz.prog W = .ok (.tuple #[.bool true, .int .i64 pos, .int .i32 (Utf8.decode s pos).1]) (itW W b s (pos + (Utf8.decode s pos).2)) := by
  simp only [Instr.next, getObj, setObj, Sem.run_bind, Sem.run, hb, Result.andThen, h, if_true]
  simp [goInt, itW]
theorem run_next_end_at (W : World) (b : Nat) (s : ByteArray) (pos : Nat) (ty : TypeId) (hb : W.heap[b]? = some (.stringIter s pos)) (h : ¬ pos < s.size) :
    (Instr.next (.pointer (some ⟨b, 0, none⟩)) true ty).run Tryz.prog W = .ok (.tuple #[.bool false]) W := by
  simp [Instr.next, getObj, Sem.run, hb, h]
end Go.Proofs.YtmclngahdklfkaaGreatDoor
