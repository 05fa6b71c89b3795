/- Texts of ours, joined: MiscP, Misc1, Misc2, Misc3, Misc4, Misc5. -/
import Derived.Test.YtgenpgfhjhcahaaGreatDoorRows
import Derived.WalkKit
import Derived.ProofKit
import Derived.OpenShut
import Derived.ShutString
import Derived.ChangeOld
import Derived.Below
import Derived.BigQuiet
import Derived.Deep.QuietTactic
import Derived.Lib.Hide
import Derived.Deep.RegionHeld3
import Derived.Lib.SlBytesConst
import Derived.Laws.CopyOwn
import Derived.Laws.CopyRow
import Derived.Lib.Bytes
import Derived.Deep.LoopGhost
import Derived.Deep.DeepFit
import Derived.Deep.DeepMust
import Derived.WalkSpells
import Derived.WalkLawsBesides
import Derived.Lib.IndexMore
import Derived.Lib.IndexLaws
import Derived.Test.YtgenpgfhjhcahaaGreatDoorQ1
import Derived.Test.YtgenpgfhjhcahaaGreatDoorQ4
import Derived.Test.YtgenpgfhjhcahaaGreatDoorQ5
import Derived.StillTailTactics
import Derived.Laws.EntriesVeiled
import Derived.Laws.Rows
import Derived.Deep.RegionWith
import Derived.Test.YtgenpgfhjhcahaaGreatDoorQ2
import Derived.Test.YtgenpgfhjhcahaaGreatDoorQ8
/- Plain law of texts between marks. -/
namespace Go.Proofs.YtgenpgfhjhcahaaGreatDoor
open Go.ChangeShapes Go.WideShapes Go.ChangeAt Go.RowKit
set_option linter.unusedVariables false
theorem bfalse {b : Bool} (h : ¬ b = true) : b = false := by
  cases b with
  | false => rfl
  | true => exact absurd rfl h
/-- The place of the first instance from k on; below 0: there is none. -/
def findI (l : List UInt8) (k : Nat) (p : List UInt8) : Int := if Lib.index (l.drop k) p < 0 then -1 else (k : Int) + Lib.index (l.drop k) p
theorem occ_drop (l p : List UInt8) (k j : Nat) : Lib.occAt (l.drop k) p j = p.isPrefixOf (l.drop (k + j)) := by unfold Lib.occAt; rw [List.drop_drop]
theorem findI_hit (l p : List UInt8) (k i : Nat) (hk : k ≤ i) (hi : i ≤ l.length) (h : p.isPrefixOf (l.drop i) = true) (hn : ∀ j, k ≤ j → j < i → p.isPrefixOf (l.drop j) = false) : findI l k p = i := by
  have := Lib.index_first (s := l.drop k) (sub := p) (i := i - k) (by rw [List.length_drop]; omega) (by rw [occ_drop, show k + (i - k) = i by omega]; exact h) (fun j hj => by rw [occ_drop]; exact hn _ (by omega) (by omega))
  unfold findI
  rw [this, if_neg (by omega)]
  omega
theorem findI_none (l p : List UInt8) (k : Nat) (hk : k ≤ l.length) (hn : ∀ j, k ≤ j → j ≤ l.length → p.isPrefixOf (l.drop j) = false) : findI l k p = -1 := by
  have := Lib.index_none (s := l.drop k) (sub := p) (fun j hj => by rw [occ_drop]; rw [List.length_drop] at hj; exact hn _ (by omega) (by omega))
  unfold findI
  rw [this, if_pos (by omega)]
theorem findI_spec (l p : List UInt8) (k : Nat) (hk : k ≤ l.length) : (findI l k p = -1 ∧ ∀ j, k ≤ j → j ≤ l.length → p.isPrefixOf (l.drop j) = false) ∨
    ∃ i : Nat, findI l k p = i ∧ k ≤ i ∧ i + p.length ≤ l.length ∧ p.isPrefixOf (l.drop i) = true ∧ ∀ j, k ≤ j → j < i → p.isPrefixOf (l.drop j) = false := by
  rcases Lib.index_spec (l.drop k) p with ⟨h, hn⟩ | ⟨i, h, hi, ho, hn⟩
  · refine .inl ⟨by unfold findI; rw [h, if_pos (by omega)], fun j hj hjl => ?_⟩
    have := hn (j - k) (by rw [List.length_drop]; omega)
    rwa [occ_drop, show k + (j - k) = j by omega] at this
  · rw [occ_drop] at ho
    refine .inr ⟨k + i, by unfold findI; rw [h, if_neg (by omega)]; omega, by omega, ?_, ho, fun j hj hji => ?_⟩
    · have := (List.isPrefixOf_iff_prefix.1 ho).length_le
      rw [List.length_drop] at this
      rw [List.length_drop] at hi
      omega
    · have := hn (j - k) (by omega)
      rwa [occ_drop, show k + (j - k) = j by omega] at this
/-- The byte at a place of what stands there. -/
theorem pre_get {p l : List UInt8} {k : Nat} (h : p.isPrefixOf (l.drop k) = true) (i : Nat) (hi : i < p.length) : l[k + i]? = p[i]? := by
  obtain ⟨t, ht⟩ := List.isPrefixOf_iff_prefix.1 h
  have : (l.drop k)[i]? = p[i]? := by rw [← ht, List.getElem?_append_left hi]
  rw [← this, List.getElem?_drop]
theorem pre_len {p l : List UInt8} {k : Nat} (h : p.isPrefixOf (l.drop k) = true) : p = [] ∨ k + p.length ≤ l.length := by
  have := (List.isPrefixOf_iff_prefix.1 h).length_le
  rw [List.length_drop] at this
  rcases p with _ | ⟨a, t⟩
  · exact .inl rfl
  · simp at this ⊢; omega
/-- How a comment reads: the text, the place behind, the error. -/
def commentOut (l : List UInt8) (k : Nat) : List UInt8 × Nat × Nat :=
  if [60, 33, 45, 45].isPrefixOf (l.drop k) = false then ([], 0, 7) else
  if findI l (k + 4) [45, 45] < 0 then ([], 0, 7) else
  if [45, 45, 62].isPrefixOf (l.drop (findI l (k + 4) [45, 45]).toNat) = true then ((l.drop (k + 4)).take ((findI l (k + 4) [45, 45]).toNat - (k + 4)), (findI l (k + 4) [45, 45]).toNat + 3, 0) else ([], 0, 7)
/-- What the program reads between marks. -/
def markedOut (p q : List UInt8) (may : List UInt8 → Bool) (l : List UInt8) (k : Nat) : List UInt8 × Nat × Nat :=
  if p.isPrefixOf (l.drop k) = true ∧ 0 ≤ Lib.index (l.drop (k + p.length)) q ∧ may ((l.drop (k + p.length)).take (Lib.index (l.drop (k + p.length)) q).toNat) = true then
    ((l.drop (k + p.length)).take (Lib.index (l.drop (k + p.length)) q).toNat, k + p.length + (Lib.index (l.drop (k + p.length)) q).toNat + q.length, 0) else ([], 0, 7)
def mayComment (s : List UInt8) : Bool := !Lib.contains (s ++ [45]) [45, 45]
theorem contains_false (s p : List UInt8) (h : ∀ j, j + p.length ≤ s.length → p.isPrefixOf (s.drop j) = false) (hp : p ≠ []) : Lib.contains s p = false := by
  unfold Lib.contains
  rw [Lib.index_none]
  · rfl
  · intro j hj
    by_cases hjl : j + p.length ≤ s.length
    · exact h j hjl
    · unfold Lib.occAt
      refine Classical.byContradiction fun hc => ?_
      have := pre_len (l := s) (k := j) (by simpa using hc)
      rcases this with h' | h'
      · exact hp h'
      · omega
theorem contains_true (s p : List UInt8) (j : Nat) (hj : j ≤ s.length) (h : p.isPrefixOf (s.drop j) = true) : Lib.contains s p = true := by
  rcases Lib.index_spec s p with ⟨h', hn⟩ | ⟨i, h', _⟩
  · have := hn j hj
    unfold Lib.occAt at this
    rw [h] at this; cases this
  · unfold Lib.contains
    rw [h']
    simp
theorem pre_of_get {p l : List UInt8} {k : Nat} (h : ∀ i, i < p.length → l[k + i]? = p[i]?) : p.isPrefixOf (l.drop k) = true := by
  refine List.isPrefixOf_iff_prefix.2 ?_
  refine List.prefix_iff_eq_take.2 (List.ext_getElem? fun i => ?_)
  rw [List.getElem?_take]
  split
  · rename_i hi
    rw [List.getElem?_drop, h i hi]
  · rename_i hi
    rw [List.getElem?_eq_none (by omega)]
theorem marked_yes {p q : List UInt8} {may : List UInt8 → Bool} {l : List UInt8} {k a b j : Nat} (ha : p.length = a) (hb : q.length = b) (hp : p.isPrefixOf (l.drop k) = true) (hx : Lib.index (l.drop (k + a)) q = (j : Int)) (hm : may ((l.drop (k + a)).take j) = true) :
    markedOut p q may l k = ((l.drop (k + a)).take j, k + a + j + b, 0) := by
  subst ha hb
  unfold markedOut
  rw [hx, Int.toNat_natCast, if_pos ⟨hp, by omega, hm⟩]
theorem marked_no {p q : List UInt8} {may : List UInt8 → Bool} {l : List UInt8} {k a : Nat} (ha : p.length = a) (h : p.isPrefixOf (l.drop k) = true → ∀ j : Nat, Lib.index (l.drop (k + a)) q = (j : Int) → may ((l.drop (k + a)).take j) = false) :
    markedOut p q may l k = ([], 0, 7) := by
  subst ha
  unfold markedOut
  rw [if_neg]
  rintro ⟨hp, h0, hm⟩
  have := h hp (Lib.index (l.drop (k + p.length)) q).toNat (by omega)
  rw [hm] at this
  cases this
theorem two_of_three {l : List UInt8} {k : Nat} {a b c : UInt8} (h : [a, b, c].isPrefixOf (l.drop k) = true) : [a, b].isPrefixOf (l.drop k) = true := by
  rw [List.isPrefixOf_iff_prefix] at *
  exact List.IsPrefix.trans ⟨[c], rfl⟩ h
theorem marked_comment (l : List UInt8) (k : Nat) (hk : k ≤ l.length) : markedOut [60, 33, 45, 45] [45, 45, 62] mayComment l k = commentOut l k := by
  by_cases hp : [60, 33, 45, 45].isPrefixOf (l.drop k) = true
  · have hkl : k + 4 ≤ l.length := by have := pre_len hp; simpa using this
    have hnp : ¬ [60, 33, 45, 45].isPrefixOf (l.drop k) = false := by rw [hp]; simp
    rcases findI_spec l [45, 45] (k + 4) hkl with ⟨h, hn⟩ | ⟨i, h, hki, hil, ho, hn⟩
    · have e1 : commentOut l k = ([], 0, 7) := by unfold commentOut; rw [if_neg hnp, h, if_pos (by omega)]
      rw [e1]
      refine marked_no rfl fun _ j hj => ?_
      exfalso
      replace hj : Lib.index (l.drop (k + 4)) [45, 45, 62] = (j : Int) := hj
      rcases Lib.index_spec (l.drop (k + 4)) [45, 45, 62] with ⟨h', _⟩ | ⟨t, h', ht, hot, _⟩
      · rw [h'] at hj; omega
      · rw [occ_drop] at hot
        have hjl := pre_len hot
        simp at hjl
        have := hn (k + 4 + t) (by omega) (by omega)
        rw [two_of_three hot] at this
        cases this
    · have hil' : i + 2 ≤ l.length := by simpa using hil
      by_cases h3 : [45, 45, 62].isPrefixOf (l.drop i) = true
      · have e1 : commentOut l k = ((l.drop (k + 4)).take (i - (k + 4)), i + 3, 0) := by
          unfold commentOut
          rw [if_neg hnp, h, if_neg (by omega), Int.toNat_natCast, if_pos h3]
        have hx : Lib.index (l.drop (k + 4)) [45, 45, 62] = ((i - (k + 4) : Nat) : Int) := Lib.index_first (by rw [List.length_drop]; omega) (by rw [occ_drop, show k + 4 + (i - (k + 4)) = i by omega]; exact h3) (fun j hj => by
          rw [occ_drop]
          refine Classical.byContradiction fun hc => ?_
          have := hn (k + 4 + j) (by omega) (by omega)
          rw [two_of_three (a := 45) (b := 45) (c := 62) (l := l) (k := k + 4 + j) (by simpa using hc)] at this
          cases this)
        have hmay : mayComment ((l.drop (k + 4)).take (i - (k + 4))) = true := by
          unfold mayComment
          rw [contains_false _ _ _ (by simp)]
          · rfl
          · intro j hj
            refine Classical.byContradiction fun hc => ?_
            have hoj : [45, 45].isPrefixOf ((((l.drop (k + 4)).take (i - (k + 4))) ++ [45]).drop j) = true := by simpa using hc
            have hlen : ((l.drop (k + 4)).take (i - (k + 4))).length = i - (k + 4) := by rw [List.length_take, List.length_drop]; omega
            simp only [List.length_append, hlen, List.length_cons, List.length_nil] at hj
            have g0 := pre_get hoj 0 (by simp)
            have g1 := pre_get hoj 1 (by simp)
            rw [Nat.add_zero, List.getElem?_append_left (by omega), List.getElem?_take_of_lt (by omega), List.getElem?_drop] at g0
            have g1' : l[k + 4 + (j + 1)]? = some 45 := by
              by_cases hj1 : j + 1 < i - (k + 4)
              · rw [List.getElem?_append_left (by omega), List.getElem?_take_of_lt (by omega), List.getElem?_drop] at g1
                exact g1
              · have hji : k + 4 + (j + 1) = i + 0 := by omega
                rw [hji, pre_get h3 0 (by simp)]; rfl
            have := hn (k + 4 + j) (by omega) (by omega)
            rw [pre_of_get (fun i hi => by
              simp at hi
              rcases (show i = 0 ∨ i = 1 by omega) with rfl | rfl
              · exact g0
              · rw [Nat.add_assoc]; exact g1')] at this
            cases this
        rw [e1, marked_yes (a := 4) (b := 3) rfl rfl hp hx hmay]
        congr 2
        omega
      · have e1 : commentOut l k = ([], 0, 7) := by
          unfold commentOut
          rw [if_neg hnp, h, if_neg (by omega), Int.toNat_natCast, if_neg h3]
        rw [e1]
        refine marked_no rfl fun _ j hj => ?_
        rcases Lib.index_spec (l.drop (k + 4)) [45, 45, 62] with ⟨h', _⟩ | ⟨t, h', ht, hoj, hnj⟩
        · exfalso
          have hj' : Lib.index (l.drop (k + 4)) [45, 45, 62] = (j : Int) := hj
          rw [h'] at hj'; omega
        · obtain rfl : t = j := by
            have hj' : Lib.index (l.drop (k + 4)) [45, 45, 62] = (j : Int) := hj
            rw [h'] at hj'; omega
          rw [occ_drop] at hoj
          have hjl := pre_len hoj
          simp at hjl
          have hij : i < k + 4 + t := by
            refine Classical.byContradiction fun hc => ?_
            have h2 := two_of_three hoj
            rcases Nat.lt_or_ge (k + 4 + t) i with g | g
            · rw [hn _ (by omega) g] at h2; cases h2
            · obtain rfl : i = k + 4 + t := by omega
              exact h3 hoj
          unfold mayComment
          have hc : Lib.contains (((l.drop (k + 4)).take t) ++ [45]) [45, 45] = true := by
            have hlen : ((l.drop (k + 4)).take t).length = t := by rw [List.length_take, List.length_drop]; omega
            refine contains_true _ _ (i - (k + 4)) (by rw [List.length_append, hlen]; simp; omega) (pre_of_get fun s hs => ?_)
            simp at hs
            have gt := pre_get ho s (by simpa using hs)
            rcases (show i - (k + 4) + s < t ∨ i - (k + 4) + s = t by omega) with g | g
            · rw [List.getElem?_append_left (by omega), List.getElem?_take_of_lt g, List.getElem?_drop, show k + 4 + (i - (k + 4) + s) = i + s by omega]
              exact gt
            · rw [List.getElem?_append_right (by omega), hlen, g, Nat.sub_self]
              rcases (show s = 0 ∨ s = 1 by omega) with rfl | rfl <;> rfl
          show (!Lib.contains (((l.drop (k + 4)).take t) ++ [45]) [45, 45]) = false
          rw [hc]
          rfl
  · have e1 : commentOut l k = ([], 0, 7) := by unfold commentOut; rw [if_pos (by cases h : [60, 33, 45, 45].isPrefixOf (l.drop k) <;> simp_all)]
    rw [e1]
    exact marked_no rfl fun h => absurd h hp
end Go.Proofs.YtgenpgfhjhcahaaGreatDoor
/- narthexref08.At, Find. -/
namespace Go.Proofs.YtgenpgfhjhcahaaGreatDoor
open Go.ChangeShapes Go.WideShapes Go.ChangeAt Go.RowKit
set_option linter.unusedVariables false
theorem pre_take (p l : List UInt8) : p.isPrefixOf l = (l.take p.length == p) := by
  rw [Bool.eq_iff_iff, List.isPrefixOf_iff_prefix, beq_iff_eq, List.prefix_iff_eq_take]
  exact eq_comm
set_option maxRecDepth 100000 in
set_option maxHeartbeats 4000000 in
theorem refAt8_c (A : Option Addr) (n cap : Nat) (l : List UInt8) (k : Nat) (p : List UInt8) (B : Nat) (w : World) (h : Byt w B A n cap l) (hp : p ≠ []) (hm : n ≤ 1000000) (hpl : p.length ≤ 1000000) (hk : k ≤ 2000000) :
    Calls Tryz.prog 15 #[.slice A n cap, .int .i64 k, .string ⟨p.toArray⟩] w fun e w' => e = .returned (.bool (p.isPrefixOf (l.drop k))) ∧ w = w' := by
  have hk0 : (0 : Int) ≤ (k : Int) := by omega
  have hk1 : (k : Int) ≤ 2000000 := by omega
  have hn1 : (n : Int) ≤ 1000000 := by omega
  have hp1 : (p.length : Int) ≤ 1000000 := by omega
  by_cases hkp : k + p.length ≤ n
  · have hle : (p.length : Int) ≤ (n : Int) - (k : Int) := by omega
    have hcap := h.le
    have hst := ((h.drop (k := k) (by omega)).take (k := p.length) (by omega)).str
    have hrf : ∀ w2 : World, (Instr.slice 22 (.slice A n cap) (some (.int .i64 (k : Int))) (some (.int .i64 ((k : Int) + (p.length : Int)))) none).run Tryz.prog w2 = .ok (.slice (cutA A cap k) p.length (cap - k)) w2 := fun w2 => by
      have := run_fromTo (w := w2) A n cap k (k + p.length) (by omega) (by omega)
      rw [show k + p.length - k = p.length by omega, show ((k + p.length : Nat) : Int) = (k : Int) + (p.length : Int) by omega] at this
      exact this
    have HE : Hid (p.isPrefixOf (l.drop k) = ((l.drop k).take p.length == p)) := Lib.hid (pre_take _ _)
    clear hcap h hp hkp
    generalize (l.drop k).take p.length = q at *
    generalize p.isPrefixOf (l.drop k) = r at *
    go_enter Tryz.func15, Tryz.ntmps15
    go_wp2
    go_ret
    rw [HE.out]
    exact ⟨rfl, rfl⟩
  · have hle : ¬ (p.length : Int) ≤ (n : Int) - (k : Int) := by omega
    have HE : Hid (p.isPrefixOf (l.drop k) = false) := Lib.hid (by
      refine Classical.byContradiction fun hc => ?_
      have := pre_len (l := l) (k := k) (p := p) (by simpa using hc)
      rw [h.length] at this
      rcases this with h' | h'
      · exact hp h'
      · exact hkp h')
    rw [HE.out]
    clear HE h hp hkp
    go_enter Tryz.func15, Tryz.ntmps15
    go_wp2
    go_ret
    exact ⟨rfl, rfl⟩
set_option maxRecDepth 100000 in
set_option maxHeartbeats 4000000 in
theorem refFind_c (A : Option Addr) (n cap : Nat) (l : List UInt8) (k : Nat) (p : List UInt8) (B : Nat) (w : World) (h : Byt w B A n cap l) (hp : p ≠ []) (hm : n ≤ 1000000) (hpl : p.length ≤ 1000000) (hk : k ≤ n) :
    Calls Tryz.prog 34 #[.slice A n cap, .int .i64 k, .string ⟨p.toArray⟩] w fun e w' => e = .returned (.int .i64 (findI l k p)) ∧ w = w' := by
  have hn1 : (n : Int) ≤ 1000000 := by omega
  have hn0 : (0 : Int) ≤ (n : Int) := by omega
  have CA : Hid (∀ t : Nat, t ≤ n → Calls Tryz.prog 15 #[.slice A n cap, .int .i64 t, .string ⟨p.toArray⟩] w fun e w' => e = .returned (.bool (p.isPrefixOf (l.drop t))) ∧ w = w') := Lib.hid fun t ht => refAt8_c A n cap l t p B w h hp hm hpl (by omega)
  have hln := Lib.hid h.length
  have HK := Lib.hid hk
  clear h hp hpl
  go_enter Tryz.func34, Tryz.ntmps34
  go_wp2
  go_loopg [7] (n + 1 - k) (fun g i wr => ∃ t : Nat, t ≤ n + 1 ∧ Hid (g + t = n + 1) ∧ i = .int .i64 (t : Int) ∧ w = wr ∧ Hid (k ≤ t ∧ ∀ j, k ≤ j → j < t → p.isPrefixOf (l.drop j) = false))
  case atStart => exact ⟨k, by omega, Lib.hid (by omega), rfl, rfl, Lib.hid ⟨Nat.le_refl _, fun j h1 h2 => absurd h1 (by omega)⟩⟩
  case round =>
    obtain ⟨t, ht, hg, rfl, rfl, HN⟩ := hrel
    have ht0 : (0 : Int) ≤ (t : Int) := by omega
    have htb : (t : Int) ≤ 1000001 := by omega
    by_cases htn : t ≤ n
    · have htni : (t : Int) ≤ (n : Int) := by omega
      have CT := Lib.hid (CA.out t htn)
      cases hpt : p.isPrefixOf (l.drop t) with
      | true =>
        rw [hpt] at CT
        have HE : Hid (findI l k p = (t : Int)) := Lib.hid (findI_hit l p k t HN.out.1 (by rw [hln.out]; exact htn) hpt HN.out.2)
        clear hpt
        go_wp2_with fail
        refine (CT.out).mono ?_
        rintro e wq ⟨rfl, rfl⟩
        go_wp2
        go_ret
        exact ⟨by rw [HE.out]; rfl, rfl⟩
      | false =>
        rw [hpt] at CT
        have HN2 : Hid (k ≤ t + 1 ∧ ∀ j, k ≤ j → j < t + 1 → p.isPrefixOf (l.drop j) = false) := Lib.hid ⟨by have := HN.out.1; omega, fun j h1 h2 => by
          rcases (show j < t ∨ j = t by omega) with h' | rfl
          · exact HN.out.2 j h1 h'
          · exact hpt⟩
        clear hpt
        go_wp2_with fail
        refine (CT.out).mono ?_
        rintro e wq ⟨rfl, rfl⟩
        go_wp2
        go_roundg (n + 1 - (t + 1))
        case measure => have := hg.out; omega
        case rel => exact ⟨t + 1, by omega, Lib.hid (by omega), by go_num, rfl, HN2⟩
    · have htni : ¬ (t : Int) ≤ (n : Int) := by omega
      have HE : Hid (findI l k p = -1) := Lib.hid (findI_none l p k (by rw [hln.out]; exact HK.out) (fun j h1 h2 => HN.out.2 j h1 (by rw [hln.out] at h2; omega)))
      go_wp2
      go_ret
      exact ⟨by rw [HE.out]; rfl, rfl⟩
end Go.Proofs.YtgenpgfhjhcahaaGreatDoor
/- narthexref08.Comment, CData. -/
namespace Go.Proofs.YtgenpgfhjhcahaaGreatDoor
open Go.ChangeShapes Go.WideShapes Go.ChangeAt Go.RowKit
set_option linter.unusedVariables false
set_option maxRecDepth 100000 in
set_option maxHeartbeats 4000000 in
theorem refComment_c (A : Option Addr) (n cap : Nat) (l : List UInt8) (k : Nat) (B : Nat) (w : World) (h : Byt w B A n cap l) (hm : n ≤ 100000) (hk : k ≤ n) :
    Calls Tryz.prog 16 #[.slice A n cap, .int .i64 k] w fun e w' => e = .returned (outV (commentOut l k)) ∧ w = w' := by
  have hk' : ¬ (n : Int) < (k : Int) := by omega
  have hk0 : (0 : Int) ≤ (k : Int) := by omega
  have hk1 : (k : Int) ≤ 100000 := by omega
  have c1 := refAt8_c A n cap l k [60, 33, 45, 45] B w h (by simp) (by omega) (by simp) (by omega)
  have hln := h.length
  by_cases hp : [60, 33, 45, 45].isPrefixOf (l.drop k) = true
  · have hkl : k + 4 ≤ n := by have := pre_len hp; simp at this; omega
    have c2 := refFind_c A n cap l (k + 4) [45, 45] B w h (by simp) (by omega) (by simp) hkl
    rw [show ((k + 4 : Nat) : Int) = (k : Int) + 4 by omega] at c2
    have hsp := findI_spec l [45, 45] (k + 4) (by omega)
    rw [hp] at c1
    have C1 := Lib.hid c1
    clear c1
    have HO : Hid (commentOut l k = if findI l (k + 4) [45, 45] < 0 then ([], 0, 7) else
  if [45, 45, 62].isPrefixOf (l.drop (findI l (k + 4) [45, 45]).toNat) = true then ((l.drop (k + 4)).take ((findI l (k + 4) [45, 45]).toNat - (k + 4)), (findI l (k + 4) [45, 45]).toNat + 3, 0) else ([], 0, 7)) := Lib.hid (by unfold commentOut; rw [if_neg (by rw [hp]; simp)])
    rcases hsp with ⟨hf, _⟩ | ⟨i, hf, hki, hil, hpre, _⟩
    · rw [hf] at c2
      have C2 := Lib.hid c2
      have HR : Hid (commentOut l k = ([], 0, 7)) := Lib.hid (by rw [HO.out, hf]; rfl)
      rw [HR.out]
      clear c2 h hp hf hln HO HR
      go_enter Tryz.func16, Tryz.ntmps16
      go_wp2_with fail
      refine (C1.out).mono ?_
      rintro e wq ⟨rfl, rfl⟩
      go_wp2_with fail
      refine (C2.out).mono ?_
      rintro e wq ⟨rfl, rfl⟩
      go_wp2
      go_ret3
      exact ⟨rfl, rfl⟩
    · simp at hil
      rw [hf] at c2
      have C2 := Lib.hid c2
      have c3 := refAt8_c A n cap l i [45, 45, 62] B w h (by simp) (by omega) (by simp) (by omega)
      have hi0 : (0 : Int) ≤ (i : Int) := by omega
      have hi1 : (i : Int) ≤ 100000 := by omega
      have hlt : ¬ (i : Int) < 0 := by omega
      by_cases h3 : [45, 45, 62].isPrefixOf (l.drop i) = true
      · rw [h3] at c3
        have C3 := Lib.hid c3
        have hcap := h.le
        have hst := ((h.drop (k := k + 4) (by omega)).take (k := i - (k + 4)) (by omega)).str
        have hrf : ∀ w2 : World, (Instr.slice 22 (.slice A n cap) (some (.int .i64 ((k : Int) + 4))) (some (.int .i64 (i : Int))) none).run Tryz.prog w2 = .ok (.slice (cutA A cap (k + 4)) (i - (k + 4)) (cap - (k + 4))) w2 := fun w2 => by
          have := run_fromTo (w := w2) A n cap (k + 4) i (by omega) (by omega)
          rw [show ((k + 4 : Nat) : Int) = (k : Int) + 4 by omega] at this
          exact this
        have HR : Hid (commentOut l k = ((l.drop (k + 4)).take (i - (k + 4)), i + 3, 0)) := Lib.hid (by
          rw [HO.out, hf, if_neg (by omega), Int.toNat_natCast, if_pos h3])
        rw [HR.out]
        clear c2 c3 h hp hf hln hcap hil hpre h3 HO HR hkl
        generalize (l.drop (k + 4)).take (i - (k + 4)) = q at *
        unfold outV
        go_enter Tryz.func16, Tryz.ntmps16
        go_wp2_with fail
        refine (C1.out).mono ?_
        rintro e wq ⟨rfl, rfl⟩
        go_wp2_with fail
        refine (C2.out).mono ?_
        rintro e wq ⟨rfl, rfl⟩
        go_wp2_with fail
        refine (C3.out).mono ?_
        rintro e wq ⟨rfl, rfl⟩
        go_wp2
        go_ret3
        exact ⟨rfl, rfl⟩
      · have h3' : [45, 45, 62].isPrefixOf (l.drop i) = false := bfalse h3
        rw [h3'] at c3
        have C3 := Lib.hid c3
        have HR : Hid (commentOut l k = ([], 0, 7)) := Lib.hid (by
          rw [HO.out, hf, if_neg (by omega), Int.toNat_natCast, if_neg h3])
        rw [HR.out]
        clear c2 c3 h hp hf hln hil hpre h3 h3' HO HR hkl
        go_enter Tryz.func16, Tryz.ntmps16
        go_wp2_with fail
        refine (C1.out).mono ?_
        rintro e wq ⟨rfl, rfl⟩
        go_wp2_with fail
        refine (C2.out).mono ?_
        rintro e wq ⟨rfl, rfl⟩
        go_wp2_with fail
        refine (C3.out).mono ?_
        rintro e wq ⟨rfl, rfl⟩
        go_wp2
        go_ret3
        exact ⟨rfl, rfl⟩
  · have hp' : [60, 33, 45, 45].isPrefixOf (l.drop k) = false := by
      cases hx : [60, 33, 45, 45].isPrefixOf (l.drop k) with
      | false => rfl
      | true => exact absurd hx hp
    rw [hp'] at c1
    have C1 := Lib.hid c1
    have HR : Hid (commentOut l k = ([], 0, 7)) := Lib.hid (by unfold commentOut; rw [if_pos hp'])
    rw [HR.out]
    clear c1 h hp hp' hln HR
    go_enter Tryz.func16, Tryz.ntmps16
    go_wp2_with fail
    refine (C1.out).mono ?_
    rintro e wq ⟨rfl, rfl⟩
    go_wp2
    go_ret3
    exact ⟨rfl, rfl⟩
end Go.Proofs.YtgenpgfhjhcahaaGreatDoor
/- misc: what stands between marks: comments. -/
namespace Go.Proofs.YtgenpgfhjhcahaaGreatDoor
open Go.ChangeShapes Go.WideShapes Go.ChangeAt Go.RowKit
set_option linter.unusedVariables false
/-- What stands while marks are read: below w all as it was, and the sort's own block. -/
def MkJ (p q : List UInt8) (fid : Nat) (w W : World) : Prop :=
  Below w.heap.size w W ∧ w.heap.size < W.heap.size ∧ W.cell? ⟨w.heap.size, 0, none⟩ = some (.string ⟨p.toArray⟩) ∧ W.cell? ⟨w.heap.size, 1, none⟩ = some (.string ⟨q.toArray⟩) ∧ W.cell? ⟨w.heap.size, 2, none⟩ = some (.func (.func fid) #[] #[])
theorem MkJ.kept {p q : List UInt8} {fid : Nat} {w W W' : World} (h : MkJ p q fid w W) (hb : Below W.heap.size W W') : MkJ p q fid w W' :=
  ⟨h.1.trans (hb.mono h.1.size), by have := hb.size; have := h.2.1; omega, by rw [hb.cell h.2.1]; exact h.2.2.1, by rw [hb.cell h.2.1]; exact h.2.2.2.1, by rw [hb.cell h.2.1]; exact h.2.2.2.2⟩
theorem MkJ.drewN {p q : List UInt8} {fid : Nat} {w W : World} (h : MkJ p q fid w W) (n : Nat) : MkJ p q fid w (W.drewN n) := h.kept (below_drewN' (Below.refl _ _))
def commentsV : Value := .agg #[.string ⟨#[60, 33, 45, 45]⟩, .string ⟨#[45, 45, 62]⟩, .func (.func 123) #[] #[]]
set_option maxRecDepth 100000 in
set_option maxHeartbeats 4000000 in
theorem comments_c (w : World) : Calls Tryz.prog 78 #[] w fun e w' => e = .returned commentsV ∧ Below w.heap.size w w' := by
  have hF := Lib.hid (hp_new w (.cells #[.string ⟨#[60, 33, 45, 45]⟩, .string ⟨#[45, 45, 62]⟩, .func (.func 123) #[] #[]] 185))
  have hb := Lib.hid (Below.alloc (Below.refl w.heap.size w) (Nat.le_refl _) (.cells #[.string ⟨#[60, 33, 45, 45]⟩, .string ⟨#[45, 45, 62]⟩, .func (.func 123) #[] #[]] 185))
  go_enter Tryz.func78, Tryz.ntmps78
  go_wp2
  have hi : (Tryz.prog.info? 185).map (·.size) = some 3 := by kernel_rfl
  obtain ⟨d, hu⟩ := isStruct_of (P := Tryz.prog) (t := 185) (by kernel_rfl)
  (try simp only [Exit.inBlock, Exit.then])
  refine bodyPost_ret (results_cell_row rfl _ _ w.heap.size _ _ _ _ rfl hF.out hu rfl hi) rfl ⟨rfl, hb.out⟩
set_option maxRecDepth 100000 in
set_option maxHeartbeats 4000000 in
theorem commentsRead_range (A : Option Addr) (n cap : Nat) (at_ : Int) (w : World) (ha : at_ < 0 ∨ (n : Int) < at_) :
    Calls Tryz.prog 79 #[commentsV, .slice A n cap, .int .i64 at_] w fun e w' => e = .returned (outV ([], 0, 3)) ∧ Below w.heap.size w w' := by
  have hb := Lib.hid (Below.alloc (Below.refl w.heap.size w) (Nat.le_refl _) (.cells #[.string ⟨#[60, 33, 45, 45]⟩, .string ⟨#[45, 45, 62]⟩, .func (.func 123) #[] #[]] 185))
  unfold commentsV
  by_cases h0 : at_ < 0
  · have hd : decide (at_ < 0) = true := by simpa using h0
    clear ha
    go_enter Tryz.func79, Tryz.ntmps79
    go_wp2
    go_ret3
    exact ⟨rfl, hb.out⟩
  · have h1 : (n : Int) < at_ := by omega
    clear ha
    go_enter Tryz.func79, Tryz.ntmps79
    go_wp2
    go_ret3
    exact ⟨rfl, hb.out⟩
set_option maxRecDepth 100000 in
set_option maxHeartbeats 4000000 in
theorem comments1_c (s : List UInt8) (w : World) (hM : MaxL w) (hs : s.length ≤ 500000) :
    Calls Tryz.prog 123 #[.string ⟨s.toArray⟩] w fun e w' => e = .returned (.bool (mayComment s)) ∧ w = w' := by
  have hct : (Op.stringOp .add ⟨s.toArray⟩ ⟨#[45]⟩).run Tryz.prog w = .ok (.string ⟨(s ++ [45]).toArray⟩) w := run_sop (w := w) s [45] (by simp; omega)
  have C1 := Lib.hid (contains_c (s ++ [45]) [45, 45] w hM (by simp; omega))
  unfold mayComment
  generalize Lib.contains (s ++ [45]) [45, 45] = r at *
  generalize s ++ [45] = s2 at *
  clear hM hs
  cases r
  all_goals
    go_enter Tryz.func123, Tryz.ntmps123
    go_wp2_with fail
    refine (C1.out).mono ?_
    rintro e wq ⟨rfl, rfl⟩
    go_wp2
    go_ret
    exact ⟨rfl, rfl⟩
set_option maxRecDepth 100000 in
set_option maxHeartbeats 4000000 in
theorem commentsRead_c (A : Option Addr) (n cap : Nat) (l : List UInt8) (k : Nat) (w : World) (h : Byt w w.heap.size A n cap l) (hM : MaxL w) (hm : n ≤ 100000) (hk : k ≤ n) :
    Calls Tryz.prog 79 #[commentsV, .slice A n cap, .int .i64 k] w fun e w' => e = .returned (outV (markedOut [60, 33, 45, 45] [45, 45, 62] mayComment l k)) ∧ Below w.heap.size w w' := by
  have hk' : ¬ (n : Int) < (k : Int) := by omega
  have hk0 : (0 : Int) ≤ (k : Int) := by omega
  have hk1 : (k : Int) ≤ 100000 := by omega
  have f0 := hp_new w (.cells #[.string ⟨#[60, 33, 45, 45]⟩, .string ⟨#[45, 45, 62]⟩, .func (.func 123) #[] #[]] 185)
  have z0 : (w.alloc (.cells #[.string ⟨#[60, 33, 45, 45]⟩, .string ⟨#[45, 45, 62]⟩, .func (.func 123) #[] #[]] 185)).cell? ⟨w.heap.size, 0, none⟩ = some (.string ⟨#[60, 33, 45, 45]⟩) := cell_of 0 f0
  have z1 : (w.alloc (.cells #[.string ⟨#[60, 33, 45, 45]⟩, .string ⟨#[45, 45, 62]⟩, .func (.func 123) #[] #[]] 185)).cell? ⟨w.heap.size, 1, none⟩ = some (.string ⟨#[45, 45, 62]⟩) := cell_of 1 f0
  have z2 : (w.alloc (.cells #[.string ⟨#[60, 33, 45, 45]⟩, .string ⟨#[45, 45, 62]⟩, .func (.func 123) #[] #[]] 185)).cell? ⟨w.heap.size, 2, none⟩ = some (.func (.func 123) #[] #[]) := cell_of 2 f0
  have hb0 : Below w.heap.size w (w.alloc (.cells #[.string ⟨#[60, 33, 45, 45]⟩, .string ⟨#[45, 45, 62]⟩, .func (.func 123) #[] #[]] 185)) := Below.alloc (Below.refl _ _) (Nat.le_refl _) _
  have hJ0 : MkJ [60, 33, 45, 45] [45, 45, 62] 123 w (w.alloc (.cells #[.string ⟨#[60, 33, 45, 45]⟩, .string ⟨#[45, 45, 62]⟩, .func (.func 123) #[] #[]] 185)) := ⟨hb0, by simp, z0, z1, z2⟩
  have HH := Lib.hid (And.intro h hM)
  have hcap := h.le
  have hln := h.length
  have hrf : ∀ W : World, (Instr.slice 22 (.slice A n cap) (some (.int .i64 (k : Int))) none none).run Tryz.prog W = .ok (.slice (cutA A cap k) (n - k) (cap - k)) W := fun W => run_from A n cap k hk
  have hcv : ∀ W : World, (convert 9 22 (.string ⟨#[60, 33, 45, 45]⟩)).run Tryz.prog W = .ok (.slice (some ⟨W.heap.size, 0, none⟩) 4 (grownCap W 4 0 5)) (Lib.bytesWorld W 5 ⟨#[60, 33, 45, 45]⟩) := fun W => run_toBytes W [60, 33, 45, 45]
  have hcq : ∀ W : World, (convert 9 22 (.string ⟨#[45, 45, 62]⟩)).run Tryz.prog W = .ok (.slice (some ⟨W.heap.size, 0, none⟩) 3 (grownCap W 3 0 5)) (Lib.bytesWorld W 5 ⟨#[45, 45, 62]⟩) := fun W => run_toBytes W [45, 45, 62]
  have hsize : (w.alloc (.cells #[.string ⟨#[60, 33, 45, 45]⟩, .string ⟨#[45, 45, 62]⟩, .func (.func 123) #[] #[]] 185)).heap.size = w.heap.size + 1 := by simp
  have HCI : Hid (∀ (R : Option Addr) (rn rc : Nat) (rl : List UInt8), (∀ W, MkJ [60, 33, 45, 45] [45, 45, 62] 123 w W → Byt W w.heap.size R rn rc rl) → rn ≤ 100000 → ∀ W : World, Hid (MkJ [60, 33, 45, 45] [45, 45, 62] 123 w W) → Calls Tryz.prog 82 #[.slice R rn rc, .slice (some ⟨W.heap.size, 0, none⟩) 3 (grownCap W 3 0 5)] (Lib.bytesWorld W 5 ⟨#[45, 45, 62]⟩) fun e w' => e = .returned (.int .i64 (Lib.index rl [45, 45, 62])) ∧ Hid (MkJ [60, 33, 45, 45] [45, 45, 62] 123 w w')) := Lib.hid fun R rn rc rl hR hrn W HJ => by
    have hJ1 := HJ.out.kept (Lib.bytesWorld_below W 5 ⟨#[45, 45, 62]⟩)
    exact (bindex_c R _ rn rc 3 _ rl [45, 45, 62] _ _ _ (hR _ hJ1) (byt_new W [45, 45, 62] (by simp)) (HH.out.2.below hJ1.1 HH.out.2.lt) (by omega) (by omega) (by omega)).mono fun e w' ⟨he, q, hq⟩ => ⟨he, Lib.hid (hq ▸ hJ1.drewN q)⟩
  have hA : ∀ W, MkJ [60, 33, 45, 45] [45, 45, 62] 123 w W → Byt W w.heap.size A n cap l := fun W hJ => h.below hJ.1
  by_cases hp : [60, 33, 45, 45].isPrefixOf (l.drop k) = true
  · have hkl : k + 4 ≤ n := by have := pre_len hp; simp at this; omega
    have CP : Hid (∀ W : World, Hid (∃ m, W = (w.alloc (.cells #[.string ⟨#[60, 33, 45, 45]⟩, .string ⟨#[45, 45, 62]⟩, .func (.func 123) #[] #[]] 185)).drewN m) → Calls Tryz.prog 91 #[.slice (cutA A cap k) (n - k) (cap - k), .slice (some ⟨w.heap.size + 1, 0, none⟩) 4 (grownCap W 4 0 5)] (Lib.bytesWorld W 5 ⟨#[60, 33, 45, 45]⟩) fun e w' => e = .returned (.tuple #[.slice (cutA (cutA A cap k) (cap - k) 4) (n - k - 4) (cap - k - 4), .bool true]) ∧ Hid (MkJ [60, 33, 45, 45] [45, 45, 62] 123 w w')) := Lib.hid fun W HW => by
      obtain ⟨m, rfl⟩ := HW.out
      have hJ1 := (hJ0.drewN m).kept (Lib.bytesWorld_below _ 5 ⟨#[60, 33, 45, 45]⟩)
      have hn := byt_new ((w.alloc (.cells #[.string ⟨#[60, 33, 45, 45]⟩, .string ⟨#[45, 45, 62]⟩, .func (.func 123) #[] #[]] 185)).drewN m) [60, 33, 45, 45] (by simp)
      rw [show ((w.alloc (.cells #[.string ⟨#[60, 33, 45, 45]⟩, .string ⟨#[45, 45, 62]⟩, .func (.func 123) #[] #[]] 185)).drewN m).heap.size = w.heap.size + 1 from hsize] at hn
      exact (cutPrefix_yes _ _ _ _ _ _ _ _ _ _ _ ((hA _ hJ1).drop hk) hn (by simp) hp).mono fun e w' ⟨he, hw⟩ => ⟨he, Lib.hid (hw ▸ hJ1)⟩
    have hR : ∀ W, MkJ [60, 33, 45, 45] [45, 45, 62] 123 w W → Byt W w.heap.size (cutA (cutA A cap k) (cap - k) 4) (n - k - 4) (cap - k - 4) (l.drop (k + 4)) := fun W hJ => by
      have := ((hA W hJ).drop hk).drop (k := 4) (by omega)
      rwa [List.drop_drop] at this
    have CI := Lib.hid (HCI.out _ _ _ _ hR (by omega))
    have HR := Lib.hid hR
    have hix := Lib.index_spec (l.drop (k + 4)) [45, 45, 62]
    have hrc : n - k - 4 ≤ cap - k - 4 := by omega
    have HRL : Hid ((l.drop (k + 4)).length = n - k - 4) := Lib.hid (by rw [List.length_drop]; omega)
    rcases hix with ⟨hi, _⟩ | ⟨j, hi, hj, hoc, _⟩
    · have HE : Hid (markedOut [60, 33, 45, 45] [45, 45, 62] mayComment l k = ([], 0, 7)) := Lib.hid (marked_no rfl fun _ j hj => by
        have hj' : Lib.index (l.drop (k + 4)) [45, 45, 62] = (j : Int) := hj
        rw [hi] at hj'; omega)
      rw [HE.out]
      rw [hi] at CI
      clear h hM hb0 f0 hJ0 hA hR hi HE HCI hln hsize HRL hkl hrc z1 z2 hp
      generalize cutA (cutA A cap k) (cap - k) 4 = R at *
      generalize n - k - 4 = rn at *
      generalize cap - k - 4 = rc at *
      unfold commentsV
      go_enter Tryz.func79, Tryz.ntmps79
      go_wp2
      go_region_with (first
        | (go_at_call 91; refine (CP.out _ (by first | exact Lib.hid ⟨0, rfl⟩ | exact Lib.hid ⟨1, rfl⟩ | exact Lib.hid ⟨2, rfl⟩ | exact Lib.hid ⟨3, rfl⟩)).mono ?_; rintro e w1 ⟨rfl, HJ1⟩))
      all_goals
        clear hcv z0
        have z1 := HJ1.out.2.2.2.1
        go_wp2_with fail
        refine (CI.out _ HJ1).mono ?_
        rintro e w2 ⟨rfl, HJ2⟩
        clear hcq z1
        go_wp2
        go_quiet (fail)
        have HJ3 := Lib.hid (HJ2.out.drewN nq)
        generalize w2.drewN nq = w3 at *
        go_wp2
        go_ret3
        exact ⟨rfl, HJ3.out.1⟩
    · have hjr : j ≤ n - k - 4 := by have := HRL.out; omega
      have hj0 : (0 : Int) ≤ (j : Int) := by omega
      have hj1 : (j : Int) ≤ 100000 := by omega
      have hjd : decide ((j : Int) < 0) = false := by simp
      have hjc : j ≤ cap - k - 4 := by omega
      have hct : ∀ W : World, (Instr.slice 22 (.slice (cutA (cutA A cap k) (cap - k) 4) (n - k - 4) (cap - k - 4)) none (some (.int .i64 (j : Int))) none).run Tryz.prog W = .ok (.slice (cutA (cutA A cap k) (cap - k) 4) j (cap - k - 4)) W := fun W => run_upTo _ _ _ _ hjc
      have HST : Hid (∀ W, MkJ [60, 33, 45, 45] [45, 45, 62] 123 w W → (convert 22 9 (.slice (cutA (cutA A cap k) (cap - k) 4) j (cap - k - 4))).run Tryz.prog W = .ok (.string ⟨((l.drop (k + 4)).take j).toArray⟩) W) := Lib.hid fun W hJ => ((hR W hJ).take hjr).str
      have CM : Hid (∀ W, MkJ [60, 33, 45, 45] [45, 45, 62] 123 w W → Calls Tryz.prog 123 #[.string ⟨((l.drop (k + 4)).take j).toArray⟩] W fun e w' => e = .returned (.bool (mayComment ((l.drop (k + 4)).take j))) ∧ w' = W) := Lib.hid fun W hJ => (comments1_c _ W (HH.out.2.below hJ.1 HH.out.2.lt) (by rw [List.length_take]; omega)).mono fun e w' ⟨he, hw⟩ => ⟨he, hw.symm⟩
      have HE : Hid (markedOut [60, 33, 45, 45] [45, 45, 62] mayComment l k = if mayComment ((l.drop (k + 4)).take j) = true then ((l.drop (k + 4)).take j, k + 4 + j + 3, 0) else ([], 0, 7)) := Lib.hid (by
        by_cases hmy : mayComment ((l.drop (k + 4)).take j) = true
        · rw [if_pos hmy]; exact marked_yes (a := 4) (b := 3) rfl rfl hp hi hmy
        · rw [if_neg hmy]
          refine marked_no rfl fun _ t ht => ?_
          have ht' : Lib.index (l.drop (k + 4)) [45, 45, 62] = (t : Int) := ht
          obtain rfl : j = t := by rw [hi] at ht'; omega
          exact bfalse hmy)
      rw [HE.out]
      rw [hi] at CI
      clear h hM hb0 f0 hJ0 hA hR hi HE HCI hln hsize HRL hkl hrc z1 z2 hp hj hoc hjr hjc hcap
      generalize cutA (cutA A cap k) (cap - k) 4 = R at *
      generalize n - k - 4 = rn at *
      generalize cap - k - 4 = rc at *
      generalize (l.drop (k + 4)).take j = T at *
      generalize mayComment T = my at *
      unfold commentsV
      cases my
      all_goals
        simp only [if_true, Bool.false_eq_true, if_false]
        go_enter Tryz.func79, Tryz.ntmps79
        go_wp2
        go_region_with (first
          | (go_at_call 91; refine (CP.out _ (by first | exact Lib.hid ⟨0, rfl⟩ | exact Lib.hid ⟨1, rfl⟩ | exact Lib.hid ⟨2, rfl⟩ | exact Lib.hid ⟨3, rfl⟩)).mono ?_; rintro e w1 ⟨rfl, HJ1⟩))
        all_goals
          clear hcv z0
          have z1 := HJ1.out.2.2.2.1
          go_wp2_with fail
          refine (CI.out _ HJ1).mono ?_
          rintro e w2 ⟨rfl, HJ2⟩
          clear hcq z1
          have z2 := HJ2.out.2.2.2.2
          have hst : ∀ m, (convert 22 9 (.slice R j rc)).run Tryz.prog (w2.drewN m) = .ok (.string ⟨T.toArray⟩) (w2.drewN m) := fun m => HST.out _ (HJ2.out.drewN m)
          have CMm := Lib.hid (fun m => CM.out _ (HJ2.out.drewN m))
          go_wp2
          go_quiet ((go_at_call 123; exact Calls.quiet_of_same (CMm.out _)))
          have HJ3 := Lib.hid (HJ2.out.drewN nq)
          clear hst CMm z2
          generalize w2.drewN nq = w3 at *
          have z0 := HJ3.out.2.2.1
          have z1 := HJ3.out.2.2.2.1
          have hst : ∀ m, (convert 22 9 (.slice R j rc)).run Tryz.prog (w3.drewN m) = .ok (.string ⟨T.toArray⟩) (w3.drewN m) := fun m => HST.out _ (HJ3.out.drewN m)
          have hs1 : IntKind.i64.wrap ((k : Int) + 4) = (k : Int) + 4 := by rw [IntKind.wrap_i64]; omega
          have hs2 : IntKind.i64.wrap ((k : Int) + 4 + (j : Int)) = (k : Int) + 4 + (j : Int) := by rw [IntKind.wrap_i64]; omega
          have hs3 : IntKind.i64.wrap ((k : Int) + 4 + (j : Int) + 3) = (k : Int) + 4 + (j : Int) + 3 := by rw [IntKind.wrap_i64]; omega
          first
          | (go_wp2
             go_ret3
             exact ⟨rfl, HJ3.out.1⟩)
          | (go_wp2
             go_quiet (fail)
             have HJ4 := Lib.hid (HJ3.out.drewN nq)
             generalize w3.drewN nq = w4 at *
             go_wp2
             go_ret3
             exact ⟨rfl, HJ4.out.1⟩)
  · have hp' := bfalse hp
    have CP : Hid (∀ W : World, Hid (∃ m, W = (w.alloc (.cells #[.string ⟨#[60, 33, 45, 45]⟩, .string ⟨#[45, 45, 62]⟩, .func (.func 123) #[] #[]] 185)).drewN m) → Calls Tryz.prog 91 #[.slice (cutA A cap k) (n - k) (cap - k), .slice (some ⟨w.heap.size + 1, 0, none⟩) 4 (grownCap W 4 0 5)] (Lib.bytesWorld W 5 ⟨#[60, 33, 45, 45]⟩) fun e w' => e = .returned (.tuple #[.slice (cutA A cap k) (n - k) (cap - k), .bool false]) ∧ Hid (MkJ [60, 33, 45, 45] [45, 45, 62] 123 w w')) := Lib.hid fun W HW => by
      obtain ⟨m, rfl⟩ := HW.out
      have hJ1 := (hJ0.drewN m).kept (Lib.bytesWorld_below _ 5 ⟨#[60, 33, 45, 45]⟩)
      have hn := byt_new ((w.alloc (.cells #[.string ⟨#[60, 33, 45, 45]⟩, .string ⟨#[45, 45, 62]⟩, .func (.func 123) #[] #[]] 185)).drewN m) [60, 33, 45, 45] (by simp)
      rw [show ((w.alloc (.cells #[.string ⟨#[60, 33, 45, 45]⟩, .string ⟨#[45, 45, 62]⟩, .func (.func 123) #[] #[]] 185)).drewN m).heap.size = w.heap.size + 1 from hsize] at hn
      exact (cutPrefix_no _ _ _ _ _ _ _ _ _ _ _ ((hA _ hJ1).drop hk) hn hp').mono fun e w' ⟨he, hw⟩ => ⟨he, Lib.hid (hw ▸ hJ1)⟩
    have CI := Lib.hid (HCI.out _ _ _ _ (fun W hJ => (hA W hJ).drop hk) (by omega))
    have HE : Hid (markedOut [60, 33, 45, 45] [45, 45, 62] mayComment l k = ([], 0, 7)) := Lib.hid (marked_no rfl fun h' => absurd h' hp)
    rw [HE.out]
    clear h hM hb0 f0 hJ0 hA HE HCI hln hsize z1 z2 hp hp' hcap
    generalize Lib.index (l.drop k) [45, 45, 62] = ix at *
    unfold commentsV
    go_enter Tryz.func79, Tryz.ntmps79
    go_wp2
    go_region_with (first
      | (go_at_call 91; refine (CP.out _ (by first | exact Lib.hid ⟨0, rfl⟩ | exact Lib.hid ⟨1, rfl⟩ | exact Lib.hid ⟨2, rfl⟩ | exact Lib.hid ⟨3, rfl⟩)).mono ?_; rintro e w1 ⟨rfl, HJ1⟩))
    all_goals
      clear hcv z0
      have z1 := HJ1.out.2.2.2.1
      go_wp2_with fail
      refine (CI.out _ HJ1).mono ?_
      rintro e w2 ⟨rfl, HJ2⟩
      clear hcq z1
      go_wp2
      go_quiet (fail)
      have HJ3 := Lib.hid (HJ2.out.drewN nq)
      generalize w2.drewN nq = w3 at *
      go_wp2
      go_ret3
      exact ⟨rfl, HJ3.out.1⟩
end Go.Proofs.YtgenpgfhjhcahaaGreatDoor
/- misc: what stands between marks: marked texts. -/
namespace Go.Proofs.YtgenpgfhjhcahaaGreatDoor
open Go.ChangeShapes Go.WideShapes Go.ChangeAt Go.RowKit
set_option linter.unusedVariables false
end Go.Proofs.YtgenpgfhjhcahaaGreatDoor
/- misc: comments and marked texts, read and written. -/
namespace Go.Proofs.YtgenpgfhjhcahaaGreatDoor
open Go.ChangeShapes Go.WideShapes Go.ChangeAt Go.RowKit
set_option linter.unusedVariables false
def anyAt (f : List UInt8 → Nat → List UInt8 × Nat × Nat) (l : List UInt8) (at_ : Int) : List UInt8 × Nat × Nat := if at_ < 0 ∨ (l.length : Int) < at_ then ([], 0, 3) else f l at_.toNat
theorem anyAt_in (f : List UInt8 → Nat → List UInt8 × Nat × Nat) (l : List UInt8) (k : Nat) (h : k ≤ l.length) : anyAt f l k = f l k := by
  unfold anyAt
  rw [if_neg (by omega), Int.toNat_natCast]
set_option maxRecDepth 100000 in
set_option maxHeartbeats 4000000 in
theorem miscComment_c (A : Option Addr) (n cap : Nat) (l : List UInt8) (at_ : Int) (w : World) (h : Byt w w.heap.size A n cap l) (hM : MaxL w) (hm : n ≤ 100000) :
    Calls Tryz.prog 54 #[.slice A n cap, .int .i64 at_] w fun e w' => e = .returned (outV (anyAt commentOut l at_)) ∧ Below w.heap.size w w' := by
  have C1 := Lib.hid (comments_c w)
  have C2 : Hid (∀ W, Below w.heap.size w W → Calls Tryz.prog 79 #[commentsV, .slice A n cap, .int .i64 at_] W fun e w' => e = .returned (outV (anyAt commentOut l at_)) ∧ Below W.heap.size W w') := Lib.hid fun W hb => by
    by_cases ha : at_ < 0 ∨ (n : Int) < at_
    · have : anyAt commentOut l at_ = ([], 0, 3) := by unfold anyAt; rw [h.length, if_pos ha]
      rw [this]
      exact commentsRead_range A n cap at_ W ha
    · obtain ⟨k, rfl⟩ : ∃ k : Nat, at_ = (k : Int) := ⟨at_.toNat, by omega⟩
      rw [anyAt_in _ _ _ (by rw [h.length]; omega), ← marked_comment l k (by rw [h.length]; omega)]
      exact commentsRead_c A n cap l k W ((h.below hb).more hb.size) (hM.below hb hM.lt) hm (by omega)
  clear h hM hm
  generalize anyAt commentOut l at_ = r at *
  unfold outV at *
  go_enter Tryz.func54, Tryz.ntmps54
  go_wp2_with fail
  refine (C1.out).mono ?_
  rintro e w1 ⟨rfl, hb⟩
  have B1 := Lib.hid hb
  clear hb
  go_wp2_with fail
  refine (C2.out _ B1.out).mono ?_
  rintro e w2 ⟨rfl, hb⟩
  have B2 := Lib.hid (B1.out.trans (hb.mono B1.out.size))
  clear hb
  go_wp2
  go_ret3
  exact ⟨rfl, B2.out⟩
end Go.Proofs.YtgenpgfhjhcahaaGreatDoor
