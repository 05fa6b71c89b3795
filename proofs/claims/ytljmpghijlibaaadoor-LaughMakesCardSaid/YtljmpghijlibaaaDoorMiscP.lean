/- Plain law of texts between marks. -/
import Derived.Test.YtljmpghijlibaaaDoorRows
import Derived.WalkKit
import Derived.ProofKit
import Derived.OpenShut
import Derived.ShutString
import Derived.ChangeOld
import Derived.Below
import Derived.BigQuiet
import Derived.Deep.QuietTactic
import Derived.Lib.Hide
import Derived.Deep.RegionHeld3
import Derived.Lib.SlBytesConst
import Derived.Laws.CopyOwn
import Derived.Laws.CopyRow
import Derived.Lib.Bytes
import Derived.Deep.LoopGhost
import Derived.Deep.DeepFit
import Derived.Deep.DeepMust
import Derived.WalkSpells
import Derived.WalkLawsBesides
import Derived.Lib.IndexMore
import Derived.Lib.IndexLaws
import Derived.Test.YtljmpghijlibaaaDoorBase
import Derived.Test.YtljmpghijlibaaaDoorCharPlain
namespace Go.Proofs.YtljmpghijlibaaaDoor
open Go.ChangeShapes Go.WideShapes Go.ChangeAt Go.RowKit
set_option linter.unusedVariables false
theorem bfalse {b : Bool} (h : ¬ b = true) : b = false := by
  cases b with
  | false => rfl
  | true => exact absurd rfl h
/-- The place of the first instance from k on; below 0: there is none. -/
def findI (l : List UInt8) (k : Nat) (p : List UInt8) : Int := if Lib.index (l.drop k) p < 0 then -1 else (k : Int) + Lib.index (l.drop k) p
theorem occ_drop (l p : List UInt8) (k j : Nat) : Lib.occAt (l.drop k) p j = p.isPrefixOf (l.drop (k + j)) := by unfold Lib.occAt; rw [List.drop_drop]
theorem findI_hit (l p : List UInt8) (k i : Nat) (hk : k ≤ i) (hi : i ≤ l.length) (h : p.isPrefixOf (l.drop i) = true) (hn : ∀ j, k ≤ j → j < i → p.isPrefixOf (l.drop j) = false) : findI l k p = i := by
  have := Lib.index_first (s := l.drop k) (sub := p) (i := i - k) (by rw [List.length_drop]; omega) (by rw [occ_drop, show k + (i - k) = i by omega]; exact h) (fun j hj => by rw [occ_drop]; exact hn _ (by omega) (by omega))
  unfold findI
  rw [this, if_neg (by omega)]
  omega
theorem findI_none (l p : List UInt8) (k : Nat) (hk : k ≤ l.length) (hn : ∀ j, k ≤ j → j ≤ l.length → p.isPrefixOf (l.drop j) = false) : findI l k p = -1 := by
  have := Lib.index_none (s := l.drop k) (sub := p) (fun j hj => by rw [occ_drop]; rw [List.length_drop] at hj; exact hn _ (by omega) (by omega))
  unfold findI
  rw [this, if_pos (by omega)]
theorem findI_spec (l p : List UInt8) (k : Nat) (hk : k ≤ l.length) : (findI l k p = -1 ∧ ∀ j, k ≤ j → j ≤ l.length → p.isPrefixOf (l.drop j) = false) ∨
    ∃ i : Nat, findI l k p = i ∧ k ≤ i ∧ i + p.length ≤ l.length ∧ p.isPrefixOf (l.drop i) = true ∧ ∀ j, k ≤ j → j < i → p.isPrefixOf (l.drop j) = false := by
  rcases Lib.index_spec (l.drop k) p with ⟨h, hn⟩ | ⟨i, h, hi, ho, hn⟩
  · refine .inl ⟨by unfold findI; rw [h, if_pos (by omega)], fun j hj hjl => ?_⟩
    have := hn (j - k) (by rw [List.length_drop]; omega)
    rwa [occ_drop, show k + (j - k) = j by omega] at this
  · rw [occ_drop] at ho
    refine .inr ⟨k + i, by unfold findI; rw [h, if_neg (by omega)]; omega, by omega, ?_, ho, fun j hj hji => ?_⟩
    · have := (List.isPrefixOf_iff_prefix.1 ho).length_le
      rw [List.length_drop] at this
      rw [List.length_drop] at hi
      omega
    · have := hn (j - k) (by omega)
      rwa [occ_drop, show k + (j - k) = j by omega] at this
/-- The byte at a place of what stands there. -/
theorem pre_get {p l : List UInt8} {k : Nat} (h : p.isPrefixOf (l.drop k) = true) (i : Nat) (hi : i < p.length) : l[k + i]? = p[i]? := by
  obtain ⟨t, ht⟩ := List.isPrefixOf_iff_prefix.1 h
  have : (l.drop k)[i]? = p[i]? := by rw [← ht, List.getElem?_append_left hi]
  rw [← this, List.getElem?_drop]
theorem pre_len {p l : List UInt8} {k : Nat} (h : p.isPrefixOf (l.drop k) = true) : p = [] ∨ k + p.length ≤ l.length := by
  have := (List.isPrefixOf_iff_prefix.1 h).length_le
  rw [List.length_drop] at this
  rcases p with _ | ⟨a, t⟩
  · exact .inl rfl
  · simp at this ⊢; omega
theorem pre_drop {p l : List UInt8} {k : Nat} (h : p.isPrefixOf (l.drop k) = true) : l.drop k = p ++ l.drop (k + p.length) := by
  obtain ⟨t, ht⟩ := List.isPrefixOf_iff_prefix.1 h
  rw [← List.drop_drop, ← ht, List.drop_left]
/-- How a comment reads: the text, the place behind, the error. -/
def commentOut (l : List UInt8) (k : Nat) : List UInt8 × Nat × Nat :=
  if [60, 33, 45, 45].isPrefixOf (l.drop k) = false then ([], 0, 7) else
  if findI l (k + 4) [45, 45] < 0 then ([], 0, 7) else
  if [45, 45, 62].isPrefixOf (l.drop (findI l (k + 4) [45, 45]).toNat) = true then ((l.drop (k + 4)).take ((findI l (k + 4) [45, 45]).toNat - (k + 4)), (findI l (k + 4) [45, 45]).toNat + 3, 0) else ([], 0, 7)
def cdataOut (l : List UInt8) (k : Nat) : List UInt8 × Nat × Nat :=
  if [60, 33, 91, 67, 68, 65, 84, 65, 91].isPrefixOf (l.drop k) = false then ([], 0, 7) else
  if findI l (k + 9) [93, 93, 62] < 0 then ([], 0, 7) else
  ((l.drop (k + 9)).take ((findI l (k + 9) [93, 93, 62]).toNat - (k + 9)), (findI l (k + 9) [93, 93, 62]).toNat + 3, 0)
/-- What the program reads between marks. -/
def markedOut (p q : List UInt8) (may : List UInt8 → Bool) (l : List UInt8) (k : Nat) : List UInt8 × Nat × Nat :=
  if p.isPrefixOf (l.drop k) = true ∧ 0 ≤ Lib.index (l.drop (k + p.length)) q ∧ may ((l.drop (k + p.length)).take (Lib.index (l.drop (k + p.length)) q).toNat) = true then
    ((l.drop (k + p.length)).take (Lib.index (l.drop (k + p.length)) q).toNat, k + p.length + (Lib.index (l.drop (k + p.length)) q).toNat + q.length, 0) else ([], 0, 7)
def mayComment (s : List UInt8) : Bool := !Lib.contains (s ++ [45]) [45, 45]
def mayCData (s : List UInt8) : Bool := !Lib.contains s [93, 93, 62]
theorem contains_false (s p : List UInt8) (h : ∀ j, j + p.length ≤ s.length → p.isPrefixOf (s.drop j) = false) (hp : p ≠ []) : Lib.contains s p = false := by
  unfold Lib.contains
  rw [Lib.index_none]
  · rfl
  · intro j hj
    by_cases hjl : j + p.length ≤ s.length
    · exact h j hjl
    · unfold Lib.occAt
      refine Classical.byContradiction fun hc => ?_
      have := pre_len (l := s) (k := j) (by simpa using hc)
      rcases this with h' | h'
      · exact hp h'
      · omega
theorem contains_true (s p : List UInt8) (j : Nat) (hj : j ≤ s.length) (h : p.isPrefixOf (s.drop j) = true) : Lib.contains s p = true := by
  rcases Lib.index_spec s p with ⟨h', hn⟩ | ⟨i, h', _⟩
  · have := hn j hj
    unfold Lib.occAt at this
    rw [h] at this; cases this
  · unfold Lib.contains
    rw [h']
    simp
theorem contains_iff (s p : List UInt8) (hp : p ≠ []) : Lib.contains s p = true ↔ ∃ j, j + p.length ≤ s.length ∧ p.isPrefixOf (s.drop j) = true := by
  constructor
  · intro h
    refine Classical.byContradiction fun hc => ?_
    rw [contains_false s p (fun j hj => by refine Classical.byContradiction fun h' => ?_; exact hc ⟨j, hj, by simpa using h'⟩) hp] at h
    cases h
  · rintro ⟨j, hj, h⟩
    exact contains_true s p j (by omega) h
theorem pre_of_get {p l : List UInt8} {k : Nat} (h : ∀ i, i < p.length → l[k + i]? = p[i]?) : p.isPrefixOf (l.drop k) = true := by
  refine List.isPrefixOf_iff_prefix.2 ?_
  refine List.prefix_iff_eq_take.2 (List.ext_getElem? fun i => ?_)
  rw [List.getElem?_take]
  split
  · rename_i hi
    rw [List.getElem?_drop, h i hi]
  · rename_i hi
    rw [List.getElem?_eq_none (by omega)]
theorem marked_yes {p q : List UInt8} {may : List UInt8 → Bool} {l : List UInt8} {k a b j : Nat} (ha : p.length = a) (hb : q.length = b) (hp : p.isPrefixOf (l.drop k) = true) (hx : Lib.index (l.drop (k + a)) q = (j : Int)) (hm : may ((l.drop (k + a)).take j) = true) :
    markedOut p q may l k = ((l.drop (k + a)).take j, k + a + j + b, 0) := by
  subst ha hb
  unfold markedOut
  rw [hx, Int.toNat_natCast, if_pos ⟨hp, by omega, hm⟩]
theorem marked_no {p q : List UInt8} {may : List UInt8 → Bool} {l : List UInt8} {k a : Nat} (ha : p.length = a) (h : p.isPrefixOf (l.drop k) = true → ∀ j : Nat, Lib.index (l.drop (k + a)) q = (j : Int) → may ((l.drop (k + a)).take j) = false) :
    markedOut p q may l k = ([], 0, 7) := by
  subst ha
  unfold markedOut
  rw [if_neg]
  rintro ⟨hp, h0, hm⟩
  have := h hp (Lib.index (l.drop (k + p.length)) q).toNat (by omega)
  rw [hm] at this
  cases this
theorem two_of_three {l : List UInt8} {k : Nat} {a b c : UInt8} (h : [a, b, c].isPrefixOf (l.drop k) = true) : [a, b].isPrefixOf (l.drop k) = true := by
  rw [List.isPrefixOf_iff_prefix] at *
  exact List.IsPrefix.trans ⟨[c], rfl⟩ h
theorem marked_comment (l : List UInt8) (k : Nat) (hk : k ≤ l.length) : markedOut [60, 33, 45, 45] [45, 45, 62] mayComment l k = commentOut l k := by
  by_cases hp : [60, 33, 45, 45].isPrefixOf (l.drop k) = true
  · have hkl : k + 4 ≤ l.length := by have := pre_len hp; simpa using this
    have hnp : ¬ [60, 33, 45, 45].isPrefixOf (l.drop k) = false := by rw [hp]; simp
    rcases findI_spec l [45, 45] (k + 4) hkl with ⟨h, hn⟩ | ⟨i, h, hki, hil, ho, hn⟩
    · have e1 : commentOut l k = ([], 0, 7) := by unfold commentOut; rw [if_neg hnp, h, if_pos (by omega)]
      rw [e1]
      refine marked_no rfl fun _ j hj => ?_
      exfalso
      replace hj : Lib.index (l.drop (k + 4)) [45, 45, 62] = (j : Int) := hj
      rcases Lib.index_spec (l.drop (k + 4)) [45, 45, 62] with ⟨h', _⟩ | ⟨t, h', ht, hot, _⟩
      · rw [h'] at hj; omega
      · rw [occ_drop] at hot
        have hjl := pre_len hot
        simp at hjl
        have := hn (k + 4 + t) (by omega) (by omega)
        rw [two_of_three hot] at this
        cases this
    · have hil' : i + 2 ≤ l.length := by simpa using hil
      by_cases h3 : [45, 45, 62].isPrefixOf (l.drop i) = true
      · have e1 : commentOut l k = ((l.drop (k + 4)).take (i - (k + 4)), i + 3, 0) := by
          unfold commentOut
          rw [if_neg hnp, h, if_neg (by omega), Int.toNat_natCast, if_pos h3]
        have hx : Lib.index (l.drop (k + 4)) [45, 45, 62] = ((i - (k + 4) : Nat) : Int) := Lib.index_first (by rw [List.length_drop]; omega) (by rw [occ_drop, show k + 4 + (i - (k + 4)) = i by omega]; exact h3) (fun j hj => by
          rw [occ_drop]
          refine Classical.byContradiction fun hc => ?_
          have := hn (k + 4 + j) (by omega) (by omega)
          rw [two_of_three (a := 45) (b := 45) (c := 62) (l := l) (k := k + 4 + j) (by simpa using hc)] at this
          cases this)
        have hmay : mayComment ((l.drop (k + 4)).take (i - (k + 4))) = true := by
          unfold mayComment
          rw [contains_false _ _ _ (by simp)]
          · rfl
          · intro j hj
            refine Classical.byContradiction fun hc => ?_
            have hoj : [45, 45].isPrefixOf ((((l.drop (k + 4)).take (i - (k + 4))) ++ [45]).drop j) = true := by simpa using hc
            have hlen : ((l.drop (k + 4)).take (i - (k + 4))).length = i - (k + 4) := by rw [List.length_take, List.length_drop]; omega
            simp only [List.length_append, hlen, List.length_cons, List.length_nil] at hj
            have g0 := pre_get hoj 0 (by simp)
            have g1 := pre_get hoj 1 (by simp)
            rw [Nat.add_zero, List.getElem?_append_left (by omega), List.getElem?_take_of_lt (by omega), List.getElem?_drop] at g0
            have g1' : l[k + 4 + (j + 1)]? = some 45 := by
              by_cases hj1 : j + 1 < i - (k + 4)
              · rw [List.getElem?_append_left (by omega), List.getElem?_take_of_lt (by omega), List.getElem?_drop] at g1
                exact g1
              · have hji : k + 4 + (j + 1) = i + 0 := by omega
                rw [hji, pre_get h3 0 (by simp)]; rfl
            have := hn (k + 4 + j) (by omega) (by omega)
            rw [pre_of_get (fun i hi => by
              simp at hi
              rcases (show i = 0 ∨ i = 1 by omega) with rfl | rfl
              · exact g0
              · rw [Nat.add_assoc]; exact g1')] at this
            cases this
        rw [e1, marked_yes (a := 4) (b := 3) rfl rfl hp hx hmay]
        congr 2
        omega
      · have e1 : commentOut l k = ([], 0, 7) := by
          unfold commentOut
          rw [if_neg hnp, h, if_neg (by omega), Int.toNat_natCast, if_neg h3]
        rw [e1]
        refine marked_no rfl fun _ j hj => ?_
        rcases Lib.index_spec (l.drop (k + 4)) [45, 45, 62] with ⟨h', _⟩ | ⟨t, h', ht, hoj, hnj⟩
        · exfalso
          have hj' : Lib.index (l.drop (k + 4)) [45, 45, 62] = (j : Int) := hj
          rw [h'] at hj'; omega
        · obtain rfl : t = j := by
            have hj' : Lib.index (l.drop (k + 4)) [45, 45, 62] = (j : Int) := hj
            rw [h'] at hj'; omega
          rw [occ_drop] at hoj
          have hjl := pre_len hoj
          simp at hjl
          have hij : i < k + 4 + t := by
            refine Classical.byContradiction fun hc => ?_
            have h2 := two_of_three hoj
            rcases Nat.lt_or_ge (k + 4 + t) i with g | g
            · rw [hn _ (by omega) g] at h2; cases h2
            · obtain rfl : i = k + 4 + t := by omega
              exact h3 hoj
          unfold mayComment
          have hc : Lib.contains (((l.drop (k + 4)).take t) ++ [45]) [45, 45] = true := by
            have hlen : ((l.drop (k + 4)).take t).length = t := by rw [List.length_take, List.length_drop]; omega
            refine contains_true _ _ (i - (k + 4)) (by rw [List.length_append, hlen]; simp; omega) (pre_of_get fun s hs => ?_)
            simp at hs
            have gt := pre_get ho s (by simpa using hs)
            rcases (show i - (k + 4) + s < t ∨ i - (k + 4) + s = t by omega) with g | g
            · rw [List.getElem?_append_left (by omega), List.getElem?_take_of_lt g, List.getElem?_drop, show k + 4 + (i - (k + 4) + s) = i + s by omega]
              exact gt
            · rw [List.getElem?_append_right (by omega), hlen, g, Nat.sub_self]
              rcases (show s = 0 ∨ s = 1 by omega) with rfl | rfl <;> rfl
          show (!Lib.contains (((l.drop (k + 4)).take t) ++ [45]) [45, 45]) = false
          rw [hc]
          rfl
  · have e1 : commentOut l k = ([], 0, 7) := by unfold commentOut; rw [if_pos (by cases h : [60, 33, 45, 45].isPrefixOf (l.drop k) <;> simp_all)]
    rw [e1]
    exact marked_no rfl fun h => absurd h hp
theorem marked_cdata (l : List UInt8) (k : Nat) (hk : k ≤ l.length) : markedOut [60, 33, 91, 67, 68, 65, 84, 65, 91] [93, 93, 62] mayCData l k = cdataOut l k := by
  by_cases hp : [60, 33, 91, 67, 68, 65, 84, 65, 91].isPrefixOf (l.drop k) = true
  · have hkl : k + 9 ≤ l.length := by have := pre_len hp; simpa using this
    have hnp : ¬ [60, 33, 91, 67, 68, 65, 84, 65, 91].isPrefixOf (l.drop k) = false := by rw [hp]; simp
    rcases Lib.index_spec (l.drop (k + 9)) [93, 93, 62] with ⟨h', _⟩ | ⟨j, h', hj, hoj, hnj⟩
    · have e1 : cdataOut l k = ([], 0, 7) := by unfold cdataOut findI; rw [if_neg hnp, h', if_pos (by omega)]
      rw [e1]
      exact marked_no rfl fun _ j hj => by
        have hj' : Lib.index (l.drop (k + 9)) [93, 93, 62] = (j : Int) := hj
        rw [h'] at hj'; omega
    · have hf : findI l (k + 9) [93, 93, 62] = ((k + 9 + j : Nat) : Int) := by unfold findI; rw [h', if_neg (by omega)]; omega
      have e1 : cdataOut l k = ((l.drop (k + 9)).take j, k + 9 + j + 3, 0) := by
        unfold cdataOut
        rw [if_neg hnp, hf, if_neg (by omega), Int.toNat_natCast, show k + 9 + j - (k + 9) = j by omega]
      have hmay : mayCData ((l.drop (k + 9)).take j) = true := by
        unfold mayCData
        rw [contains_false _ _ _ (by simp)]
        · rfl
        · intro t ht
          rw [List.length_drop] at hj
          have hlen : ((l.drop (k + 9)).take j).length = j := by rw [List.length_take, List.length_drop]; omega
          simp only [hlen, List.length_cons, List.length_nil] at ht
          refine Classical.byContradiction fun hc => ?_
          have hot : [93, 93, 62].isPrefixOf (((l.drop (k + 9)).take j).drop t) = true := by simpa using hc
          have := hnj t (by omega)
          unfold Lib.occAt at this
          rw [pre_of_get (fun i hi => by
            rw [← pre_get hot i hi]
            simp at hi
            rw [List.getElem?_take_of_lt (by omega)])] at this
          cases this
      rw [e1, marked_yes (a := 9) (b := 3) rfl rfl hp h' hmay]
  · have e1 : cdataOut l k = ([], 0, 7) := by unfold cdataOut; rw [if_pos (by cases h : [60, 33, 91, 67, 68, 65, 84, 65, 91].isPrefixOf (l.drop k) <;> simp_all)]
    rw [e1]
    exact marked_no rfl fun h => absurd h hp
end Go.Proofs.YtljmpghijlibaaaDoor
